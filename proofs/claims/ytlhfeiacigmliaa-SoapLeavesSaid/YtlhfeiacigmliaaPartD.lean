/- The small code of the program's functions, printed by a program of mine. -/
import Derived.Test.YtlhfeiacigmliaaPartC
import Derived.Test.YtlhfeiacigmliaaChecked
set_option linter.all false
namespace Go.Proofs.Ytlhfeiacigmliaa
open Go
set_option maxRecDepth 100000
def a6b : ACode :=
 (.seq
 (.ops [
 ⟨(some 1), none, .boxI (t 0)⟩,
 ⟨(some 2), none, .move (c (.bool false))⟩])
 (.seq
 (.seq
 (.ops [
 ⟨(some 10), none, .loadn 3 (t 1)⟩,
 ⟨(some 11), none, .call 21 [(t 10)]⟩,
 ⟨(some 12), none, .un .not (t 11)⟩])
 (.cond (t 12)
 (.seq
 (.ops [
 ⟨(some 13), none, .call 22 []⟩,
 ⟨(some 2), none, .move (t 13)⟩])
 .ret)
 .skip))
 (.seq
 (.ops [
 ⟨(some 15), none, .loadn 3 (t 1)⟩,
 ⟨(some 16), none, .call 24 [(t 15)]⟩,
 ⟨(some 17), none, .call 40 [(t 16)]⟩,
 ⟨(some 14), none, .move (t 17)⟩,
 ⟨(some 18), none, .extract (t 14) 0⟩,
 ⟨(some 19), none, .extract (t 14) 1⟩,
 ⟨(some 3), none, .move (t 18)⟩,
 ⟨(some 4), none, .move (t 19)⟩])
 (.seq
 (.ops [
 ⟨(some 21), none, .loadn 3 (t 1)⟩,
 ⟨(some 22), none, .call 24 [(t 21)]⟩,
 ⟨(some 23), none, .call 41 [(t 22)]⟩,
 ⟨(some 20), none, .move (t 23)⟩,
 ⟨(some 24), none, .extract (t 20) 0⟩,
 ⟨(some 25), none, .extract (t 20) 1⟩,
 ⟨(some 5), none, .move (t 24)⟩,
 ⟨(some 6), none, .move (t 25)⟩])
 (.seq
 (.seq
 (.ops [
 ⟨(some 26), none, .loadn 3 (t 1)⟩,
 ⟨(some 27), none, .call 32 [(t 26)]⟩,
 ⟨(some 7), none, .move (t 27)⟩])
 (.seq
 (.ops [
 ⟨(some 28), none, .move (t 7)⟩,
 ⟨(some 29), none, .bin .neq (t 28) (c (i64 0))⟩])
 (.cond (t 29)
 (.seq
 (.ops [
 ⟨(some 30), none, .move (t 4)⟩,
 ⟨(some 31), none, .move (t 7)⟩,
 ⟨(some 32), none, .bin .eql (t 30) (t 31)⟩,
 ⟨(some 33), none, .move (t 32)⟩,
 ⟨(some 34), some (33, true), .move (t 3)⟩,
 ⟨(some 35), some (33, true), .bin .eql (t 34) (c (i64 0))⟩,
 ⟨(some 36), none, .pick (t 33) (t 35) (c (.bool false))⟩,
 ⟨(some 37), none, .move (t 36)⟩,
 ⟨(some 38), some (37, true), .move (t 6)⟩,
 ⟨(some 39), some (37, true), .move (t 7)⟩,
 ⟨(some 40), some (37, true), .bin .eql (t 38) (t 39)⟩,
 ⟨(some 41), none, .pick (t 37) (t 40) (c (.bool false))⟩,
 ⟨(some 42), none, .move (t 41)⟩,
 ⟨(some 43), some (42, true), .move (t 5)⟩,
 ⟨(some 44), some (42, true), .len (t 43)⟩,
 ⟨(some 45), some (42, true), .bin .eql (t 44) (c (i64 0))⟩,
 ⟨(some 46), none, .pick (t 42) (t 45) (c (.bool false))⟩,
 ⟨(some 47), none, .move (t 46)⟩,
 ⟨(some 48), some (47, true), .call 22 []⟩,
 ⟨(some 49), none, .pick (t 47) (t 48) (c (.bool false))⟩,
 ⟨(some 2), none, .move (t 49)⟩])
 .ret)
 .skip)))
 (.seq
 (.ops [
 ⟨(some 50), none, .loadn 3 (t 1)⟩,
 ⟨(some 51), none, .call 42 [(t 50)]⟩,
 ⟨(some 8), none, .move (t 51)⟩])
 (.seq
 (.seq
 (.ops [
 ⟨(some 52), none, .move (t 6)⟩,
 ⟨(some 53), none, .bin .neq (t 52) (c (i64 0))⟩,
 ⟨(some 54), none, .move (t 53)⟩,
 ⟨(some 55), some (54, false), .move (t 5)⟩,
 ⟨(some 56), some (54, false), .loadn 3 (t 1)⟩,
 ⟨(some 57), some (54, false), .move (t 8)⟩,
 ⟨(some 58), some (54, false), .call 44 [(t 56), (t 57)]⟩,
 ⟨(some 59), some (54, false), .call 43 [(t 55), (t 58)]⟩,
 ⟨(some 60), some (54, false), .un .not (t 59)⟩,
 ⟨(some 61), none, .pick (t 54) (c (.bool true)) (t 60)⟩])
 (.cond (t 61)
 (.seq
 (.ops [
 ⟨(some 2), none, .move (c (.bool false))⟩])
 .ret)
 .skip))
 (.seq
 (.ops [
 ⟨(some 62), none, .loadn 3 (t 1)⟩,
 ⟨(some 63), none, .move (t 8)⟩,
 ⟨(some 64), none, .call 45 [(t 62), (t 63)]⟩,
 ⟨(some 9), none, .move (t 64)⟩])
 (.seq
 (.seq
 (.ops [
 ⟨(some 65), none, .move (t 9)⟩,
 ⟨(some 66), none, .bin .lss (t 65) (c (i64 0))⟩])
 (.cond (t 66)
 (.seq
 (.ops [
 ⟨(some 67), none, .move (t 4)⟩,
 ⟨(some 68), none, .bin .eql (t 67) (c (i64 7))⟩,
 ⟨(some 69), none, .move (t 68)⟩,
 ⟨(some 70), some (69, true), .move (t 3)⟩,
 ⟨(some 71), some (69, true), .bin .eql (t 70) (c (i64 0))⟩,
 ⟨(some 72), none, .pick (t 69) (t 71) (c (.bool false))⟩,
 ⟨(some 73), none, .move (t 72)⟩,
 ⟨(some 74), some (73, true), .call 22 []⟩,
 ⟨(some 75), none, .pick (t 73) (t 74) (c (.bool false))⟩,
 ⟨(some 2), none, .move (t 75)⟩])
 .ret)
 .skip))
 (.seq
 (.ops [
 ⟨(some 76), none, .move (t 4)⟩,
 ⟨(some 77), none, .bin .eql (t 76) (c (i64 0))⟩,
 ⟨(some 78), none, .move (t 77)⟩,
 ⟨(some 79), some (78, true), .move (t 3)⟩,
 ⟨(some 80), some (78, true), .move (t 9)⟩,
 ⟨(some 81), some (78, true), .bin .eql (t 79) (t 80)⟩,
 ⟨(some 82), none, .pick (t 78) (t 81) (c (.bool false))⟩,
 ⟨(some 83), none, .move (t 82)⟩,
 ⟨(some 84), some (83, true), .call 22 []⟩,
 ⟨(some 85), none, .pick (t 83) (t 84) (c (.bool false))⟩,
 ⟨(some 2), none, .move (t 85)⟩])
 .ret))))))))))
attribute [go_sem] a6b
def a6 : AFun := ⟨86, [.tmp 2], a6b, (some 1)⟩
attribute [go_sem] a6
theorem a6_ok : cFun Go.Proofs.Try.prog (hintL [(1, 1)]) (fun _ => ⟨[], [], []⟩) (some 1) Go.Proofs.Try.f6 = some a6 := by kernel_rfl
theorem a6_body : okBody Go.Proofs.Try.prog 6 = true := by kernel_rfl
def a21b : ACode :=
 (.seq
 (.ops [
 ⟨(some 1), none, .boxI (t 0)⟩,
 ⟨(some 2), none, .move (c (.bool false))⟩])
 (.seq
 (.seq
 (.ops [
 ⟨(some 3), none, .fieldAddr 1 (t 1)⟩,
 ⟨(some 4), none, .load1 (t 3)⟩,
 ⟨(some 5), none, .len (t 4)⟩,
 ⟨(some 6), none, .bin .gtr (t 5) (c (i64 8))⟩,
 ⟨(some 7), none, .move (t 6)⟩,
 ⟨(some 8), some (7, false), .fieldAddr 2 (t 1)⟩,
 ⟨(some 9), some (7, false), .load1 (t 8)⟩,
 ⟨(some 10), some (7, false), .len (t 9)⟩,
 ⟨(some 11), some (7, false), .bin .gtr (t 10) (c (i64 7))⟩,
 ⟨(some 12), none, .pick (t 7) (c (.bool true)) (t 11)⟩])
 (.cond (t 12)
 (.seq
 (.ops [
 ⟨(some 2), none, .move (c (.bool false))⟩])
 .ret)
 .skip))
 (.seq
 (.ops [
 ⟨(some 13), none, .loadn 3 (t 1)⟩,
 ⟨(some 14), none, .call 73 [(t 13)]⟩,
 ⟨(some 15), none, .bin .neq (t 14) (c (i64 0))⟩,
 ⟨(some 16), none, .move (t 15)⟩,
 ⟨(some 17), some (16, false), .loadn 3 (t 1)⟩,
 ⟨(some 18), some (16, false), .call 51 [(t 17)]⟩,
 ⟨(some 19), some (16, false), .bin .leq (t 18) (c (i64 60))⟩,
 ⟨(some 20), none, .pick (t 16) (c (.bool true)) (t 19)⟩,
 ⟨(some 2), none, .move (t 20)⟩])
 .ret)))
attribute [go_sem] a21b
def a21 : AFun := ⟨21, [.tmp 2], a21b, (some 1)⟩
attribute [go_sem] a21
theorem a21_ok : cFun Go.Proofs.Try.prog (hintL [(1, 1)]) (fun _ => ⟨[], [], []⟩) (some 1) Go.Proofs.Try.f21 = some a21 := by kernel_rfl
theorem a21_body : okBody Go.Proofs.Try.prog 21 = true := by kernel_rfl
def a22b : ACode :=
 (.seq
 (.ops [
 ⟨(some 0), none, .move (c (.bool false))⟩])
 (.seq
 (.ops [
 ⟨(some 18), none, .call 71 [(c (i64 0))]⟩,
 ⟨(some 19), none, .buildSl [(i64 0), (i64 0), (i64 0)] 3 [(0, 1, (c (i64 3))), (1, 1, (c (i64 2))), (2, 1, (c (i64 1)))]⟩,
 ⟨(some 20), none, .call 52 [(t 18), (t 19)]⟩,
 ⟨(some 17), none, .move (t 20)⟩,
 ⟨(some 21), none, .extract (t 17) 0⟩,
 ⟨(some 22), none, .extract (t 17) 1⟩,
 ⟨(some 1), none, .move (t 21)⟩,
 ⟨(some 2), none, .move (t 22)⟩])
 (.seq
 (.ops [
 ⟨(some 24), none, .call 71 [(c (i64 1))]⟩,
 ⟨(some 25), none, .call 23 [(t 24)]⟩,
 ⟨(some 23), none, .move (t 25)⟩,
 ⟨(some 26), none, .extract (t 23) 0⟩,
 ⟨(some 27), none, .extract (t 23) 1⟩,
 ⟨(some 3), none, .move (t 26)⟩,
 ⟨(some 4), none, .move (t 27)⟩])
 (.seq
 (.ops [
 ⟨(some 29), none, .call 71 [(c (i64 0))]⟩,
 ⟨(some 30), none, .call 25 [(t 29)]⟩,
 ⟨(some 28), none, .move (t 30)⟩,
 ⟨(some 31), none, .extract (t 28) 0⟩,
 ⟨(some 32), none, .extract (t 28) 1⟩,
 ⟨(some 5), none, .move (t 31)⟩,
 ⟨(some 6), none, .move (t 32)⟩])
 (.seq
 (.ops [
 ⟨(some 34), none, .call 71 [(c (i64 0))]⟩,
 ⟨(some 35), none, .buildSl [(i64 0), (i64 0), (i64 0)] 3 [(0, 1, (c (i64 2))), (1, 1, (c (i64 2))), (2, 1, (c (i64 4)))]⟩,
 ⟨(some 36), none, .call 53 [(t 34), (t 35)]⟩,
 ⟨(some 33), none, .move (t 36)⟩,
 ⟨(some 37), none, .extract (t 33) 0⟩,
 ⟨(some 38), none, .extract (t 33) 1⟩,
 ⟨(some 7), none, .move (t 37)⟩,
 ⟨(some 8), none, .move (t 38)⟩])
 (.seq
 (.ops [
 ⟨(some 40), none, .call 71 [(c (i64 0))]⟩,
 ⟨(some 41), none, .buildSl [(i64 0), (i64 0), (i64 0)] 3 [(0, 1, (c (i64 3))), (1, 1, (c (i64 2))), (2, 1, (c (i64 1)))]⟩,
 ⟨(some 42), none, .call 30 [(t 40), (t 41)]⟩,
 ⟨(some 39), none, .move (t 42)⟩,
 ⟨(some 43), none, .extract (t 39) 0⟩,
 ⟨(some 44), none, .extract (t 39) 1⟩,
 ⟨(some 9), none, .move (t 43)⟩,
 ⟨(some 10), none, .move (t 44)⟩])
 (.seq
 (.ops [
 ⟨(some 46), none, .call 71 [(c (i64 0))]⟩,
 ⟨(some 47), none, .call 38 [(t 46)]⟩,
 ⟨(some 45), none, .move (t 47)⟩,
 ⟨(some 48), none, .extract (t 45) 0⟩,
 ⟨(some 49), none, .extract (t 45) 1⟩,
 ⟨(some 11), none, .alloc [(i64 0), (i64 0)]⟩,
 ⟨none, none, .store 2 (t 11) (t 48)⟩,
 ⟨(some 12), none, .move (t 49)⟩])
 (.seq
 (.ops [
 ⟨(some 51), none, .call 71 [(c (i64 3))]⟩,
 ⟨(some 52), none, .call 40 [(t 51)]⟩,
 ⟨(some 50), none, .move (t 52)⟩,
 ⟨(some 53), none, .extract (t 50) 0⟩,
 ⟨(some 54), none, .extract (t 50) 1⟩,
 ⟨(some 13), none, .move (t 53)⟩,
 ⟨(some 14), none, .move (t 54)⟩])
 (.seq
 (.ops [
 ⟨(some 56), none, .call 71 [(c (i64 3))]⟩,
 ⟨(some 57), none, .call 41 [(t 56)]⟩,
 ⟨(some 55), none, .move (t 57)⟩,
 ⟨(some 58), none, .extract (t 55) 0⟩,
 ⟨(some 59), none, .extract (t 55) 1⟩,
 ⟨(some 15), none, .move (t 58)⟩,
 ⟨(some 16), none, .move (t 59)⟩])
 (.seq
 (.dops [
 (⟨(some 60), none, .move (t 2)⟩, 0, 0),
 (⟨(some 61), none, .bin .eql (t 60) (c (i64 0))⟩, 0, 0),
 (⟨(some 62), none, .move (t 61)⟩, 0, 0),
 (⟨(some 63), some (62, true), .move (t 1)⟩, 0, 0),
 (⟨(some 64), some (62, true), .buildSl (List.replicate 4 (i64 0)) 4 [(0, 1, (c (i64 3))), (1, 1, (c (i64 (-1)))), (2, 1, (c (i64 (-3)))), (3, 1, (c (i64 1)))]⟩, 0, 0),
 (⟨(some 65), some (62, true), .call 43 [(t 63), (t 64)]⟩, 0, 0),
 (⟨(some 66), none, .pick (t 62) (t 65) (c (.bool false))⟩, 1, 1),
 (⟨(some 67), none, .move (t 66)⟩, 1, 1),
 (⟨(some 68), some (67, true), .move (t 4)⟩, 1, 1),
 (⟨(some 69), some (67, true), .bin .eql (t 68) (c (i64 0))⟩, 1, 1),
 (⟨(some 70), none, .pick (t 67) (t 69) (c (.bool false))⟩, 1, 1),
 (⟨(some 71), none, .move (t 70)⟩, 1, 1),
 (⟨(some 72), some (71, true), .move (t 3)⟩, 1, 1),
 (⟨(some 73), some (71, true), .len (t 72)⟩, 1, 1),
 (⟨(some 74), some (71, true), .bin .eql (t 73) (c (i64 4))⟩, 1, 1),
 (⟨(some 75), none, .pick (t 71) (t 74) (c (.bool false))⟩, 1, 1),
 (⟨(some 76), none, .move (t 75)⟩, 1, 1),
 (⟨(some 77), some (76, true), .move (t 3)⟩, 1, 2),
 (⟨(some 78), some (76, true), .indexSl 2 (t 77) (c (i64 2))⟩, 1, 2),
 (⟨(some 79), some (76, true), .loadn 2 (t 78)⟩, 1, 2),
 (⟨(some 80), some (76, true), .call 72 [(c (i64 (-4))), (c (i64 (-3)))]⟩, 1, 1),
 (⟨(some 81), some (76, true), .eqagg false [0, 0] (t 79) (t 80)⟩, 2, 2),
 (⟨(some 82), none, .pick (t 76) (t 81) (c (.bool false))⟩, 2, 2),
 (⟨(some 83), none, .move (t 82)⟩, 2, 2),
 (⟨(some 84), some (83, true), .move (t 3)⟩, 2, 3),
 (⟨(some 85), some (83, true), .indexSl 2 (t 84) (c (i64 3))⟩, 2, 3),
 (⟨(some 86), some (83, true), .loadn 2 (t 85)⟩, 2, 3),
 (⟨(some 87), some (83, true), .call 72 [(c (i64 1)), (c (i64 2))]⟩, 2, 2),
 (⟨(some 88), some (83, true), .eqagg false [0, 0] (t 86) (t 87)⟩, 3, 3),
 (⟨(some 89), none, .pick (t 83) (t 88) (c (.bool false))⟩, 3, 3),
 (⟨(some 90), none, .move (t 89)⟩, 3, 3),
 (⟨(some 91), some (90, true), .move (t 6)⟩, 3, 3),
 (⟨(some 92), some (90, true), .bin .eql (t 91) (c (i64 0))⟩, 3, 3),
 (⟨(some 93), none, .pick (t 90) (t 92) (c (.bool false))⟩, 3, 3),
 (⟨(some 94), none, .move (t 93)⟩, 3, 3),
 (⟨(some 95), some (94, true), .move (t 5)⟩, 3, 3),
 (⟨(some 96), some (94, true), .buildSl (List.replicate 4 (i64 0)) 4 [(0, 1, (c (i64 2))), (1, 1, (c (i64 3))), (2, 1, (c (i64 1))), (3, 1, (c (i64 2)))]⟩, 3, 3),
 (⟨(some 97), some (94, true), .call 43 [(t 95), (t 96)]⟩, 3, 3),
 (⟨(some 98), none, .pick (t 94) (t 97) (c (.bool false))⟩, 4, 4),
 (⟨(some 99), none, .move (t 98)⟩, 4, 4),
 (⟨(some 100), some (99, true), .move (t 8)⟩, 4, 4),
 (⟨(some 101), some (99, true), .bin .eql (t 100) (c (i64 0))⟩, 4, 4),
 (⟨(some 102), none, .pick (t 99) (t 101) (c (.bool false))⟩, 4, 4),
 (⟨(some 103), none, .move (t 102)⟩, 4, 4),
 (⟨(some 104), some (103, true), .move (t 7)⟩, 4, 4),
 (⟨(some 105), some (103, true), .len (t 104)⟩, 4, 4),
 (⟨(some 106), some (103, true), .bin .eql (t 105) (c (i64 2))⟩, 4, 4),
 (⟨(some 107), none, .pick (t 103) (t 106) (c (.bool false))⟩, 4, 4),
 (⟨(some 108), none, .move (t 107)⟩, 4, 4),
 (⟨(some 109), some (108, true), .move (t 10)⟩, 4, 4),
 (⟨(some 110), some (108, true), .bin .eql (t 109) (c (i64 0))⟩, 4, 4),
 (⟨(some 111), none, .pick (t 108) (t 110) (c (.bool false))⟩, 4, 4),
 (⟨(some 112), none, .move (t 111)⟩, 4, 4),
 (⟨(some 113), some (112, true), .move (t 9)⟩, 4, 4),
 (⟨(some 114), some (112, true), .len (t 113)⟩, 4, 4),
 (⟨(some 115), some (112, true), .bin .eql (t 114) (c (i64 2))⟩, 4, 4),
 (⟨(some 116), none, .pick (t 112) (t 115) (c (.bool false))⟩, 4, 4),
 (⟨(some 117), none, .move (t 116)⟩, 4, 4),
 (⟨(some 118), some (117, true), .move (t 12)⟩, 4, 4),
 (⟨(some 119), some (117, true), .bin .eql (t 118) (c (i64 0))⟩, 4, 4),
 (⟨(some 120), none, .pick (t 117) (t 119) (c (.bool false))⟩, 4, 4),
 (⟨(some 121), none, .move (t 120)⟩, 4, 4),
 (⟨(some 122), some (121, true), .loadn 2 (t 11)⟩, 4, 5),
 (⟨(some 123), some (121, true), .call 72 [(c (i64 2)), (c (i64 3))]⟩, 4, 4),
 (⟨(some 124), some (121, true), .eqagg false [0, 0] (t 122) (t 123)⟩, 5, 5),
 (⟨(some 125), none, .pick (t 121) (t 124) (c (.bool false))⟩, 5, 5),
 (⟨(some 126), none, .move (t 125)⟩, 5, 5),
 (⟨(some 127), some (126, true), .move (t 14)⟩, 5, 5),
 (⟨(some 128), some (126, true), .bin .eql (t 127) (c (i64 0))⟩, 5, 5),
 (⟨(some 129), none, .pick (t 126) (t 128) (c (.bool false))⟩, 5, 5),
 (⟨(some 130), none, .move (t 129)⟩, 5, 5),
 (⟨(some 131), some (130, true), .move (t 13)⟩, 5, 5),
 (⟨(some 132), some (130, true), .bin .eql (t 131) (c (i64 2))⟩, 5, 5),
 (⟨(some 133), none, .pick (t 130) (t 132) (c (.bool false))⟩, 5, 5),
 (⟨(some 134), none, .move (t 133)⟩, 5, 5),
 (⟨(some 135), some (134, true), .move (t 16)⟩, 5, 5),
 (⟨(some 136), some (134, true), .bin .eql (t 135) (c (i64 0))⟩, 5, 5),
 (⟨(some 137), none, .pick (t 134) (t 136) (c (.bool false))⟩, 5, 5),
 (⟨(some 138), none, .move (t 137)⟩, 5, 5),
 (⟨(some 139), some (138, true), .move (t 15)⟩, 5, 5),
 (⟨(some 140), some (138, true), .buildSl [(i64 0)] 1 [(0, 1, (c (i64 1)))]⟩, 5, 5),
 (⟨(some 141), some (138, true), .call 43 [(t 139), (t 140)]⟩, 5, 5),
 (⟨(some 142), none, .pick (t 138) (t 141) (c (.bool false))⟩, 6, 6),
 (⟨(some 0), none, .move (t 142)⟩, 6, 6)])
 .ret))))))))))
attribute [go_sem] a22b
def a22 : AFun := ⟨143, [.tmp 0], a22b, (some 1)⟩
attribute [go_sem] a22
theorem a22_ok : cFun Go.Proofs.Try.prog (fun _ => 0) (fun _ => ⟨[], [], []⟩) (some 1) Go.Proofs.Try.f22 = some a22 := by kernel_rfl
theorem a22_body : okBody Go.Proofs.Try.prog 22 = true := by kernel_rfl
def a23_l0b : ACode :=
 (.seq
 (.ops [
 ⟨(some 22), none, .bin .lss (t 21) (t 20)⟩])
 (.seq
 (.cond (t 22)
 .skip
 (.exit 0))
 (.seq
 (.block 1 (.seq
 (.ops [
 ⟨(some 23), none, .move (t 21)⟩,
 ⟨(some 7), none, .move (t 23)⟩])
 (.ops [
 ⟨(some 24), none, .move (t 6)⟩,
 ⟨(some 25), none, .build [.nilf] [(0, 1, (c (.fn (.func 75) [] [])))]⟩,
 ⟨(some 26), none, .move (t 4)⟩,
 ⟨(some 27), none, .move (t 7)⟩,
 ⟨(some 28), none, .call 76 [(t 25), (t 26), (t 27)]⟩,
 ⟨(some 29), none, .buildSl [(i64 0), (i64 0)] 1 [(0, 2, (t 28))]⟩,
 ⟨(some 30), none, .append 2 16 (t 24) (t 29)⟩,
 ⟨(some 6), none, .move (t 30)⟩])))
 (.ops [
 ⟨(some 31), none, .bin .add (t 21) (c (i64 1))⟩,
 ⟨(some 21), none, .move (t 31)⟩]))))
attribute [go_sem] a23_l0b
def a23_l0 : ACode := a23_l0b
@[go_sem] theorem a23_l0_ev (H : Han) (fr : List AVal) (s : St) : evalCode H a23_l0 fr s = evalCode H a23_l0b fr s := (rfl)
def a23b : ACode :=
 (.seq
 (.ops [
 ⟨(some 1), none, .boxI (t 0)⟩,
 ⟨(some 2), none, .move (c .sl0)⟩,
 ⟨(some 3), none, .move (c (i64 0))⟩])
 (.seq
 (.ops [
 ⟨(some 9), none, .loadn 3 (t 1)⟩,
 ⟨(some 10), none, .call 74 [(t 9)]⟩,
 ⟨(some 8), none, .move (t 10)⟩,
 ⟨(some 11), none, .extract (t 8) 0⟩,
 ⟨(some 12), none, .extract (t 8) 1⟩,
 ⟨(some 4), none, .move (t 11)⟩,
 ⟨(some 5), none, .move (t 12)⟩])
 (.seq
 (.seq
 (.ops [
 ⟨(some 13), none, .move (t 5)⟩,
 ⟨(some 14), none, .bin .neq (t 13) (c (i64 0))⟩])
 (.cond (t 14)
 (.seq
 (.ops [
 ⟨(some 15), none, .move (t 5)⟩,
 ⟨(some 2), none, .move (c .sl0)⟩,
 ⟨(some 3), none, .move (t 15)⟩])
 .ret)
 .skip))
 (.seq
 (.ops [
 ⟨(some 6), none, .move (c .sl0)⟩])
 (.seq
 (.seq
 (.ops [
 ⟨(some 16), none, .move (t 4)⟩,
 ⟨(some 17), none, .nilCheck (t 16)⟩,
 ⟨(some 18), none, .fieldAddr 0 (t 17)⟩,
 ⟨(some 19), none, .fieldAddr 0 (t 18)⟩,
 ⟨(some 20), none, .load1 (t 19)⟩,
 ⟨(some 21), none, .move (c (i64 0))⟩])
 (.block 0 (.loop ⟨[4, 6, 20, 21], [6], []⟩ a23_l0)))
 (.seq
 (.ops [
 ⟨(some 32), none, .move (t 6)⟩,
 ⟨(some 2), none, .move (t 32)⟩,
 ⟨(some 3), none, .move (c (i64 0))⟩])
 .ret))))))
attribute [go_sem] a23b
def a23 : AFun := ⟨33, [.tmp 2, .tmp 3], a23b, (some 2)⟩
attribute [go_sem] a23
theorem a23_ok : cFun Go.Proofs.Try.prog (hintL [(1, 1)]) (keepL [(250, ⟨[4, 6, 20, 21], [6], []⟩)]) (some 2) Go.Proofs.Try.f23 = some a23 := by kernel_rfl
theorem a23_body : okBody Go.Proofs.Try.prog 23 = true := by kernel_rfl
def a24_l0b : ACode :=
 (.seq
 (.seq
 (.ops [
 ⟨(some 9), none, .move (t 4)⟩,
 ⟨(some 10), none, .fieldAddr 1 (t 1)⟩,
 ⟨(some 11), none, .load1 (t 10)⟩,
 ⟨(some 12), none, .len (t 11)⟩,
 ⟨(some 13), none, .bin .lss (t 9) (t 12)⟩])
 (.cond (t 13)
 .skip
 (.exit 0)))
 (.seq
 (.block 1 (.dops [
 (⟨(some 16), none, .fieldAddr 1 (t 3)⟩, 0, 1),
 (⟨(some 17), none, .load1 (t 16)⟩, 0, 1),
 (⟨(some 18), none, .fieldAddr 1 (t 1)⟩, 0, 1),
 (⟨(some 19), none, .load1 (t 18)⟩, 0, 1),
 (⟨(some 20), none, .move (t 4)⟩, 0, 1),
 (⟨(some 21), none, .indexSl 4 (t 19) (t 20)⟩, 0, 1),
 (⟨(some 22), none, .fieldAddr 0 (t 21)⟩, 0, 1),
 (⟨(some 23), none, .load1 (t 22)⟩, 0, 1),
 (⟨(some 24), none, .fieldAddr 1 (t 1)⟩, 0, 1),
 (⟨(some 25), none, .load1 (t 24)⟩, 0, 1),
 (⟨(some 26), none, .move (t 4)⟩, 0, 1),
 (⟨(some 27), none, .indexSl 4 (t 25) (t 26)⟩, 0, 1),
 (⟨(some 28), none, .fieldAddr 1 (t 27)⟩, 0, 1),
 (⟨(some 29), none, .load1 (t 28)⟩, 0, 1),
 (⟨(some 30), none, .fieldAddr 1 (t 1)⟩, 0, 0),
 (⟨(some 31), none, .load1 (t 30)⟩, 0, 0),
 (⟨(some 32), none, .move (t 4)⟩, 0, 0),
 (⟨(some 33), none, .indexSl 4 (t 31) (t 32)⟩, 0, 0),
 (⟨(some 34), none, .fieldAddr 2 (t 33)⟩, 0, 0),
 (⟨(some 35), none, .loadn 2 (t 34)⟩, 0, 0),
 (⟨(some 36), none, .call 27 [(t 35)]⟩, 0, 0),
 (⟨(some 37), none, .build (List.replicate 4 (i64 0)) [(0, 1, (t 23)), (1, 1, (t 29)), (2, 2, (t 36))]⟩, 1, 1),
 (⟨(some 38), none, .buildSl (List.replicate 4 (i64 0)) 1 [(0, 4, (t 37))]⟩, 1, 1),
 (⟨(some 39), none, .append 4 32 (t 17) (t 38)⟩, 1, 1),
 (⟨(some 40), none, .fieldAddr 1 (t 3)⟩, 2, 2),
 (⟨none, none, .store 1 (t 40) (t 39)⟩, 2, 2)]))
 (.ops [
 ⟨(some 14), none, .move (t 4)⟩,
 ⟨(some 15), none, .bin .add (t 14) (c (i64 1))⟩,
 ⟨(some 4), none, .move (t 15)⟩])))
attribute [go_sem] a24_l0b
def a24_l0 : ACode := a24_l0b
@[go_sem] theorem a24_l0_ev (H : Han) (fr : List AVal) (s : St) : evalCode H a24_l0 fr s = evalCode H a24_l0b fr s := (rfl)
def a24_l1b : ACode :=
 (.seq
 (.seq
 (.ops [
 ⟨(some 41), none, .move (t 5)⟩,
 ⟨(some 42), none, .fieldAddr 2 (t 1)⟩,
 ⟨(some 43), none, .load1 (t 42)⟩,
 ⟨(some 44), none, .len (t 43)⟩,
 ⟨(some 45), none, .bin .lss (t 41) (t 44)⟩])
 (.cond (t 45)
 .skip
 (.exit 2)))
 (.seq
 (.block 3 (.dops [
 (⟨(some 48), none, .fieldAddr 2 (t 3)⟩, 0, 1),
 (⟨(some 49), none, .load1 (t 48)⟩, 0, 1),
 (⟨(some 50), none, .fieldAddr 2 (t 1)⟩, 0, 1),
 (⟨(some 51), none, .load1 (t 50)⟩, 0, 1),
 (⟨(some 52), none, .move (t 5)⟩, 0, 1),
 (⟨(some 53), none, .indexSl 3 (t 51) (t 52)⟩, 0, 1),
 (⟨(some 54), none, .fieldAddr 0 (t 53)⟩, 0, 1),
 (⟨(some 55), none, .load1 (t 54)⟩, 0, 1),
 (⟨(some 56), none, .fieldAddr 2 (t 1)⟩, 0, 0),
 (⟨(some 57), none, .load1 (t 56)⟩, 0, 0),
 (⟨(some 58), none, .move (t 5)⟩, 0, 0),
 (⟨(some 59), none, .indexSl 3 (t 57) (t 58)⟩, 0, 0),
 (⟨(some 60), none, .fieldAddr 1 (t 59)⟩, 0, 0),
 (⟨(some 61), none, .loadn 2 (t 60)⟩, 0, 0),
 (⟨(some 62), none, .call 27 [(t 61)]⟩, 0, 0),
 (⟨(some 63), none, .build [(i64 0), (i64 0), (i64 0)] [(0, 1, (t 55)), (1, 2, (t 62))]⟩, 1, 1),
 (⟨(some 64), none, .buildSl [(i64 0), (i64 0), (i64 0)] 1 [(0, 3, (t 63))]⟩, 1, 1),
 (⟨(some 65), none, .append 3 24 (t 49) (t 64)⟩, 1, 1),
 (⟨(some 66), none, .fieldAddr 2 (t 3)⟩, 2, 2),
 (⟨none, none, .store 1 (t 66) (t 65)⟩, 2, 2)]))
 (.ops [
 ⟨(some 46), none, .move (t 5)⟩,
 ⟨(some 47), none, .bin .add (t 46) (c (i64 1))⟩,
 ⟨(some 5), none, .move (t 47)⟩])))
attribute [go_sem] a24_l1b
def a24_l1 : ACode := a24_l1b
@[go_sem] theorem a24_l1_ev (H : Han) (fr : List AVal) (s : St) : evalCode H a24_l1 fr s = evalCode H a24_l1b fr s := (rfl)
def a24b : ACode :=
 (.seq
 (.ops [
 ⟨(some 1), none, .boxI (t 0)⟩,
 ⟨(some 2), none, .alloc [(i64 0), .sl0, .sl0]⟩])
 (.seq
 (.ops [
 ⟨(some 6), none, .fieldAddr 0 (t 1)⟩,
 ⟨(some 7), none, .load1 (t 6)⟩,
 ⟨(some 8), none, .build [(i64 0), .sl0, .sl0] [(0, 1, (t 7))]⟩,
 ⟨(some 3), none, .alloc [(i64 0), .sl0, .sl0]⟩,
 ⟨none, none, .store 3 (t 3) (t 8)⟩])
 (.seq
 (.seq
 (.ops [
 ⟨(some 4), none, .move (c (i64 0))⟩])
 (.block 0 (.loop ⟨[1, 2, 3, 4], [1, 2, 3], []⟩ a24_l0)))
 (.seq
 (.seq
 (.ops [
 ⟨(some 5), none, .move (c (i64 0))⟩])
 (.block 2 (.loop ⟨[1, 2, 3, 5], [2, 3], []⟩ a24_l1)))
 (.seq
 (.ops [
 ⟨(some 67), none, .loadn 3 (t 3)⟩,
 ⟨none, none, .store 3 (t 2) (t 67)⟩])
 .ret)))))
attribute [go_sem] a24b
def a24 : AFun := ⟨68, [.cell 2 (some 3)], a24b, (some 1)⟩
attribute [go_sem] a24
theorem a24_ok : cFun Go.Proofs.Try.prog (hintL [(1, 1)]) (keepL [(58, ⟨[1, 2, 3, 4], [1, 2, 3], []⟩), (122, ⟨[1, 2, 3, 5], [2, 3], []⟩)]) (some 1) Go.Proofs.Try.f24 = some a24 := by kernel_rfl
theorem a24_body : okBody Go.Proofs.Try.prog 24 = true := by kernel_rfl
def a24v3_l0b : ACode :=
 (.seq
 (.seq
 (.ops [
 ⟨(some 9), none, .move (t 4)⟩,
 ⟨(some 10), none, .fieldAddr 1 (t 1)⟩,
 ⟨(some 11), none, .load1 (t 10)⟩,
 ⟨(some 12), none, .len (t 11)⟩,
 ⟨(some 13), none, .bin .lss (t 9) (t 12)⟩])
 (.cond (t 13)
 .skip
 (.exit 0)))
 (.seq
 (.block 1 (.dops [
 (⟨(some 16), none, .fieldAddr 1 (t 3)⟩, 0, 1),
 (⟨(some 17), none, .load1 (t 16)⟩, 0, 1),
 (⟨(some 18), none, .fieldAddr 1 (t 1)⟩, 0, 1),
 (⟨(some 19), none, .load1 (t 18)⟩, 0, 1),
 (⟨(some 20), none, .move (t 4)⟩, 0, 1),
 (⟨(some 21), none, .indexSl 4 (t 19) (t 20)⟩, 0, 1),
 (⟨(some 22), none, .fieldAddr 0 (t 21)⟩, 0, 1),
 (⟨(some 23), none, .load1 (t 22)⟩, 0, 1),
 (⟨(some 24), none, .fieldAddr 1 (t 1)⟩, 0, 1),
 (⟨(some 25), none, .load1 (t 24)⟩, 0, 1),
 (⟨(some 26), none, .move (t 4)⟩, 0, 1),
 (⟨(some 27), none, .indexSl 4 (t 25) (t 26)⟩, 0, 1),
 (⟨(some 28), none, .fieldAddr 1 (t 27)⟩, 0, 1),
 (⟨(some 29), none, .load1 (t 28)⟩, 0, 1),
 (⟨(some 30), none, .fieldAddr 1 (t 1)⟩, 0, 0),
 (⟨(some 31), none, .load1 (t 30)⟩, 0, 0),
 (⟨(some 32), none, .move (t 4)⟩, 0, 0),
 (⟨(some 33), none, .indexSl 4 (t 31) (t 32)⟩, 0, 0),
 (⟨(some 34), none, .fieldAddr 2 (t 33)⟩, 0, 0),
 (⟨(some 35), none, .loadn 2 (t 34)⟩, 0, 0),
 (⟨(some 36), none, .call 27 [(t 35)]⟩, 0, 0),
 (⟨(some 37), none, .build (List.replicate 4 (i64 0)) [(0, 1, (t 23)), (1, 1, (t 29)), (2, 2, (t 36))]⟩, 1, 1),
 (⟨(some 38), none, .buildSl (List.replicate 4 (i64 0)) 1 [(0, 4, (t 37))]⟩, 1, 1),
 (⟨(some 39), none, .append 4 32 (t 17) (t 38)⟩, 1, 1),
 (⟨(some 40), none, .fieldAddr 1 (t 3)⟩, 2, 2),
 (⟨none, none, .store 1 (t 40) (t 39)⟩, 2, 2)]))
 (.ops [
 ⟨(some 14), none, .move (t 4)⟩,
 ⟨(some 15), none, .bin .add (t 14) (c (i64 1))⟩,
 ⟨(some 4), none, .move (t 15)⟩])))
attribute [go_sem] a24v3_l0b
def a24v3_l0 : ACode := a24v3_l0b
def a24v3_l1b : ACode :=
 (.seq
 (.seq
 (.ops [
 ⟨(some 41), none, .move (t 5)⟩,
 ⟨(some 42), none, .fieldAddr 2 (t 1)⟩,
 ⟨(some 43), none, .load1 (t 42)⟩,
 ⟨(some 44), none, .len (t 43)⟩,
 ⟨(some 45), none, .bin .lss (t 41) (t 44)⟩])
 (.cond (t 45)
 .skip
 (.exit 2)))
 (.seq
 (.block 3 (.dops [
 (⟨(some 48), none, .fieldAddr 2 (t 3)⟩, 0, 1),
 (⟨(some 49), none, .load1 (t 48)⟩, 0, 1),
 (⟨(some 50), none, .fieldAddr 2 (t 1)⟩, 0, 1),
 (⟨(some 51), none, .load1 (t 50)⟩, 0, 1),
 (⟨(some 52), none, .move (t 5)⟩, 0, 1),
 (⟨(some 53), none, .indexSl 3 (t 51) (t 52)⟩, 0, 1),
 (⟨(some 54), none, .fieldAddr 0 (t 53)⟩, 0, 1),
 (⟨(some 55), none, .load1 (t 54)⟩, 0, 1),
 (⟨(some 56), none, .fieldAddr 2 (t 1)⟩, 0, 0),
 (⟨(some 57), none, .load1 (t 56)⟩, 0, 0),
 (⟨(some 58), none, .move (t 5)⟩, 0, 0),
 (⟨(some 59), none, .indexSl 3 (t 57) (t 58)⟩, 0, 0),
 (⟨(some 60), none, .fieldAddr 1 (t 59)⟩, 0, 0),
 (⟨(some 61), none, .loadn 2 (t 60)⟩, 0, 0),
 (⟨(some 62), none, .call 27 [(t 61)]⟩, 0, 0),
 (⟨(some 63), none, .build [(i64 0), (i64 0), (i64 0)] [(0, 1, (t 55)), (1, 2, (t 62))]⟩, 1, 1),
 (⟨(some 64), none, .buildSl [(i64 0), (i64 0), (i64 0)] 1 [(0, 3, (t 63))]⟩, 1, 1),
 (⟨(some 65), none, .append 3 24 (t 49) (t 64)⟩, 1, 1),
 (⟨(some 66), none, .fieldAddr 2 (t 3)⟩, 2, 2),
 (⟨none, none, .store 1 (t 66) (t 65)⟩, 2, 2)]))
 (.ops [
 ⟨(some 46), none, .move (t 5)⟩,
 ⟨(some 47), none, .bin .add (t 46) (c (i64 1))⟩,
 ⟨(some 5), none, .move (t 47)⟩])))
attribute [go_sem] a24v3_l1b
def a24v3_l1 : ACode := a24v3_l1b
def a24v3b : ACode :=
 (.seq
 (.ops [
 ⟨(some 1), none, .boxI (t 0)⟩,
 ⟨(some 2), none, .alloc [(i64 0), .sl0, .sl0]⟩])
 (.seq
 (.ops [
 ⟨(some 6), none, .fieldAddr 0 (t 1)⟩,
 ⟨(some 7), none, .load1 (t 6)⟩,
 ⟨(some 8), none, .build [(i64 0), .sl0, .sl0] [(0, 1, (t 7))]⟩,
 ⟨(some 3), none, .alloc [(i64 0), .sl0, .sl0]⟩,
 ⟨none, none, .store 3 (t 3) (t 8)⟩])
 (.seq
 (.seq
 (.ops [
 ⟨(some 4), none, .move (c (i64 0))⟩])
 (.block 0 (.loop ⟨[1, 2, 3, 4], [1, 2, 3], []⟩ a24v3_l0)))
 (.seq
 (.seq
 (.ops [
 ⟨(some 5), none, .move (c (i64 0))⟩])
 (.block 2 (.loop ⟨[1, 2, 3, 5], [2, 3], []⟩ a24v3_l1)))
 (.seq
 (.ops [
 ⟨(some 67), none, .loadn 3 (t 3)⟩,
 ⟨none, none, .store 3 (t 2) (t 67)⟩])
 .ret)))))
attribute [go_sem] a24v3b
def a24v3 : AFun := ⟨68, [.cell 2 (some 3)], a24v3b, (some 1000000)⟩
attribute [go_sem] a24v3
theorem a24v3_ok : cFun Go.Proofs.Try.prog (hintL [(9999, 0), (1, 1)]) (keepL [(58, ⟨[1, 2, 3, 4], [1, 2, 3], []⟩), (122, ⟨[1, 2, 3, 5], [2, 3], []⟩)]) (some 1000000) Go.Proofs.Try.f24 = some a24v3 := by kernel_rfl
theorem a24v3_body : okBody Go.Proofs.Try.prog 24 = true := by kernel_rfl
def a25_l0b : ACode :=
 (.seq
 (.ops [
 ⟨(some 21), none, .bin .lss (t 20) (t 19)⟩])
 (.seq
 (.cond (t 21)
 .skip
 (.exit 0))
 (.seq
 (.block 1 (.seq
 (.ops [
 ⟨(some 22), none, .indexSl 2 (t 18) (t 20)⟩,
 ⟨(some 23), none, .loadn 2 (t 22)⟩,
 ⟨(some 8), none, .alloc [(i64 0), (i64 0)]⟩,
 ⟨none, none, .store 2 (t 8) (t 23)⟩])
 (.seq
 (.ops [
 ⟨(some 9), none, .move (c (i64 3))⟩])
 (.seq
 (.block 2 (.seq
 (.ops [
 ⟨(some 25), none, .fieldAddr 1 (t 8)⟩,
 ⟨(some 26), none, .load1 (t 25)⟩,
 ⟨(some 27), none, .bin .lss (t 26) (c (i64 0))⟩,
 ⟨(some 24), none, .move (t 27)⟩])
 (.cond (t 24)
 (.ops [
 ⟨(some 9), none, .move (c (i64 1))⟩])
 (.seq
 (.ops [
 ⟨(some 29), none, .fieldAddr 0 (t 8)⟩,
 ⟨(some 30), none, .load1 (t 29)⟩,
 ⟨(some 31), none, .bin .geq (t 30) (c (i64 0))⟩,
 ⟨(some 28), none, .move (t 31)⟩])
 (.cond (t 28)
 (.ops [
 ⟨(some 9), none, .move (c (i64 2))⟩])
 .skip)))))
 (.ops [
 ⟨(some 32), none, .move (t 6)⟩,
 ⟨(some 33), none, .move (t 9)⟩,
 ⟨(some 34), none, .buildSl [(i64 0)] 1 [(0, 1, (t 33))]⟩,
 ⟨(some 35), none, .append 1 8 (t 32) (t 34)⟩,
 ⟨(some 6), none, .move (t 35)⟩])))))
 (.ops [
 ⟨(some 36), none, .bin .add (t 20) (c (i64 1))⟩,
 ⟨(some 20), none, .move (t 36)⟩]))))
attribute [go_sem] a25_l0b
def a25_l0 : ACode := a25_l0b
@[go_sem] theorem a25_l0_ev (H : Han) (fr : List AVal) (s : St) : evalCode H a25_l0 fr s = evalCode H a25_l0b fr s := (rfl)
def a25b : ACode :=
 (.seq
 (.ops [
 ⟨(some 1), none, .boxI (t 0)⟩,
 ⟨(some 2), none, .move (c .sl0)⟩,
 ⟨(some 3), none, .move (c (i64 0))⟩])
 (.seq
 (.ops [
 ⟨(some 11), none, .loadn 3 (t 1)⟩,
 ⟨(some 12), none, .call 23 [(t 11)]⟩,
 ⟨(some 10), none, .move (t 12)⟩,
 ⟨(some 13), none, .extract (t 10) 0⟩,
 ⟨(some 14), none, .extract (t 10) 1⟩,
 ⟨(some 4), none, .move (t 13)⟩,
 ⟨(some 5), none, .move (t 14)⟩])
 (.seq
 (.seq
 (.ops [
 ⟨(some 15), none, .move (t 5)⟩,
 ⟨(some 16), none, .bin .neq (t 15) (c (i64 0))⟩])
 (.cond (t 16)
 (.seq
 (.ops [
 ⟨(some 17), none, .move (t 5)⟩,
 ⟨(some 2), none, .move (c .sl0)⟩,
 ⟨(some 3), none, .move (t 17)⟩])
 .ret)
 .skip))
 (.seq
 (.ops [
 ⟨(some 6), none, .move (c .sl0)⟩])
 (.seq
 (.seq
 (.ops [
 ⟨(some 18), none, .move (t 4)⟩,
 ⟨(some 19), none, .len (t 18)⟩,
 ⟨(some 20), none, .move (c (i64 0))⟩])
 (.block 0 (.loop ⟨[6, 18, 19, 20], [6], []⟩ a25_l0)))
 (.seq
 (.ops [
 ⟨(some 37), none, .move (t 6)⟩,
 ⟨(some 2), none, .move (t 37)⟩,
 ⟨(some 3), none, .move (c (i64 0))⟩])
 .ret))))))
attribute [go_sem] a25b
def a25 : AFun := ⟨38, [.tmp 2, .tmp 3], a25b, (some 1)⟩
attribute [go_sem] a25
theorem a25_ok : cFun Go.Proofs.Try.prog (hintL [(1, 1)]) (keepL [(250, ⟨[6, 18, 19, 20], [6], []⟩)]) (some 1) Go.Proofs.Try.f25 = some a25 := by kernel_rfl
theorem a25_body : okBody Go.Proofs.Try.prog 25 = true := by kernel_rfl
def a26b : ACode :=
 (.seq
 (.ops [
 ⟨(some 1), none, .boxI (t 0)⟩,
 ⟨(some 2), none, .move (c .sl0)⟩,
 ⟨(some 3), none, .move (c (i64 0))⟩])
 (.seq
 (.seq
 (.ops [
 ⟨(some 6), none, .loadn 3 (t 1)⟩,
 ⟨(some 7), none, .call 32 [(t 6)]⟩,
 ⟨(some 4), none, .move (t 7)⟩])
 (.seq
 (.ops [
 ⟨(some 8), none, .move (t 4)⟩,
 ⟨(some 9), none, .bin .neq (t 8) (c (i64 0))⟩])
 (.cond (t 9)
 (.seq
 (.ops [
 ⟨(some 10), none, .move (t 4)⟩,
 ⟨(some 2), none, .move (c .sl0)⟩,
 ⟨(some 3), none, .move (t 10)⟩])
 .ret)
 .skip)))
 (.seq
 (.ops [
 ⟨(some 11), none, .loadn 3 (t 1)⟩,
 ⟨(some 12), none, .call 47 [(t 11)]⟩,
 ⟨(some 5), none, .move (t 12)⟩])
 (.seq
 (.seq
 (.ops [
 ⟨(some 13), none, .move (t 5)⟩,
 ⟨(some 14), none, .len (t 13)⟩,
 ⟨(some 15), none, .bin .eql (t 14) (c (i64 0))⟩])
 (.cond (t 15)
 (.seq
 (.ops [
 ⟨(some 2), none, .move (c .sl0)⟩,
 ⟨(some 3), none, .move (c (i64 11))⟩])
 .ret)
 .skip))
 (.seq
 (.ops [
 ⟨(some 16), none, .move (t 5)⟩,
 ⟨(some 2), none, .move (t 16)⟩,
 ⟨(some 3), none, .move (c (i64 0))⟩])
 .ret)))))
attribute [go_sem] a26b
def a26 : AFun := ⟨17, [.tmp 2, .tmp 3], a26b, (some 1)⟩
attribute [go_sem] a26
theorem a26_ok : cFun Go.Proofs.Try.prog (hintL [(1, 1)]) (fun _ => ⟨[], [], []⟩) (some 1) Go.Proofs.Try.f26 = some a26 := by kernel_rfl
theorem a26_body : okBody Go.Proofs.Try.prog 26 = true := by kernel_rfl
def a27b : ACode :=
 (.seq
 (.ops [
 ⟨(some 1), none, .boxI (t 0)⟩,
 ⟨(some 2), none, .alloc [(i64 0), (i64 0)]⟩])
 (.seq
 (.ops [
 ⟨(some 3), none, .fieldAddr 0 (t 1)⟩,
 ⟨(some 4), none, .load1 (t 3)⟩,
 ⟨(some 5), none, .fieldAddr 1 (t 1)⟩,
 ⟨(some 6), none, .load1 (t 5)⟩,
 ⟨(some 7), none, .build [(i64 0), (i64 0)] [(0, 1, (t 4)), (1, 1, (t 6))]⟩,
 ⟨none, none, .store 2 (t 2) (t 7)⟩])
 .ret))
attribute [go_sem] a27b
def a27 : AFun := ⟨8, [.cell 2 (some 2)], a27b, (some 1)⟩
attribute [go_sem] a27
theorem a27_ok : cFun Go.Proofs.Try.prog (hintL [(1, 1)]) (fun _ => ⟨[], [], []⟩) (some 1) Go.Proofs.Try.f27 = some a27 := by kernel_rfl
theorem a27_body : okBody Go.Proofs.Try.prog 27 = true := by kernel_rfl
def a28_l0b : ACode :=
 (.seq
 (.seq
 (.ops [
 ⟨(some 10), none, .move (t 8)⟩,
 ⟨(some 11), none, .move (t 1)⟩,
 ⟨(some 12), none, .len (t 11)⟩,
 ⟨(some 13), none, .bin .lss (t 10) (t 12)⟩])
 (.cond (t 13)
 .skip
 (.exit 0)))
 (.seq
 (.block 1 (.dops [
 (⟨(some 16), none, .loadn 2 (t 7)⟩, 0, 1),
 (⟨(some 17), none, .loadn 3 (t 3)⟩, 0, 0),
 (⟨(some 18), none, .move (t 1)⟩, 0, 0),
 (⟨(some 19), none, .move (t 8)⟩, 0, 0),
 (⟨(some 20), none, .indexSl 1 (t 18) (t 19)⟩, 0, 0),
 (⟨(some 21), none, .load1 (t 20)⟩, 0, 0),
 (⟨(some 22), none, .move (t 2)⟩, 0, 0),
 (⟨(some 23), none, .call 48 [(t 17), (t 21), (t 22)]⟩, 0, 0),
 (⟨(some 24), none, .call 78 [(t 16), (t 23)]⟩, 1, 1),
 (⟨none, none, .store 2 (t 7) (t 24)⟩, 2, 2)]))
 (.ops [
 ⟨(some 14), none, .move (t 8)⟩,
 ⟨(some 15), none, .bin .add (t 14) (c (i64 1))⟩,
 ⟨(some 8), none, .move (t 15)⟩])))
attribute [go_sem] a28_l0b
def a28_l0 : ACode := a28_l0b
def a28b : ACode :=
 (.seq
 (.ops [
 ⟨(some 3), none, .boxI (t 0)⟩,
 ⟨(some 6), none, .alloc [(i64 0), (i64 0)]⟩])
 (.seq
 (.ops [
 ⟨(some 9), none, .call 77 []⟩,
 ⟨(some 7), none, .alloc [(i64 0), (i64 0)]⟩,
 ⟨none, none, .store 2 (t 7) (t 9)⟩])
 (.seq
 (.seq
 (.ops [
 ⟨(some 8), none, .move (c (i64 0))⟩])
 (.block 0 (.loop ⟨[1, 2, 3, 6, 7, 8], [6, 7], []⟩ a28_l0)))
 (.seq
 (.ops [
 ⟨(some 25), none, .loadn 2 (t 7)⟩,
 ⟨none, none, .store 2 (t 6) (t 25)⟩])
 .ret))))
attribute [go_sem] a28b
def a28 : AFun := ⟨26, [.cell 6 (some 2)], a28b, (some 1)⟩
attribute [go_sem] a28
theorem a28_ok : cFun Go.Proofs.Try.prog (hintL [(3, 1)]) (keepL [(58, ⟨[1, 2, 3, 6, 7, 8], [6, 7], []⟩)]) (some 1) Go.Proofs.Try.f28 = some a28 := by kernel_rfl
theorem a28_body : okBody Go.Proofs.Try.prog 28 = true := by kernel_rfl
def a29_l0b : ACode :=
 (.seq
 (.seq
 (.ops [
 ⟨(some 9), none, .move (t 8)⟩,
 ⟨(some 10), none, .move (t 1)⟩,
 ⟨(some 11), none, .len (t 10)⟩,
 ⟨(some 12), none, .bin .lss (t 9) (t 11)⟩])
 (.cond (t 12)
 .skip
 (.exit 0)))
 (.seq
 (.block 1 (.seq
 (.dops [
 (⟨(some 15), none, .loadn 3 (t 3)⟩, 0, 0),
 (⟨(some 16), none, .move (t 1)⟩, 0, 0),
 (⟨(some 17), none, .move (t 8)⟩, 0, 0),
 (⟨(some 18), none, .indexSl 1 (t 16) (t 17)⟩, 0, 0),
 (⟨(some 19), none, .load1 (t 18)⟩, 0, 0),
 (⟨(some 20), none, .move (t 2)⟩, 0, 0),
 (⟨(some 21), none, .call 48 [(t 15), (t 19), (t 20)]⟩, 0, 0),
 (⟨(some 22), none, .bin .lss (t 21) (c (i64 0))⟩, 1, 1)])
 (.cond (t 22)
 (.ops [
 ⟨(some 23), none, .move (t 7)⟩,
 ⟨(some 24), none, .bin .add (t 23) (c (i64 1))⟩,
 ⟨(some 7), none, .move (t 24)⟩])
 .skip)))
 (.ops [
 ⟨(some 13), none, .move (t 8)⟩,
 ⟨(some 14), none, .bin .add (t 13) (c (i64 1))⟩,
 ⟨(some 8), none, .move (t 14)⟩])))
attribute [go_sem] a29_l0b
def a29_l0 : ACode := a29_l0b
def a29b : ACode :=
 (.seq
 (.ops [
 ⟨(some 3), none, .boxI (t 0)⟩,
 ⟨(some 6), none, .move (c (i64 0))⟩])
 (.seq
 (.ops [
 ⟨(some 7), none, .move (c (i64 0))⟩])
 (.seq
 (.seq
 (.ops [
 ⟨(some 8), none, .move (c (i64 0))⟩])
 (.block 0 (.loop ⟨[1, 2, 3, 7, 8], [1, 7], []⟩ a29_l0)))
 (.seq
 (.seq
 (.ops [
 ⟨(some 25), none, .move (t 7)⟩,
 ⟨(some 26), none, .move (t 1)⟩,
 ⟨(some 27), none, .len (t 26)⟩,
 ⟨(some 28), none, .bin .eql (t 25) (t 27)⟩])
 (.cond (t 28)
 (.seq
 (.ops [
 ⟨(some 6), none, .move (c (i64 1))⟩])
 .ret)
 .skip))
 (.seq
 (.seq
 (.ops [
 ⟨(some 29), none, .move (t 7)⟩,
 ⟨(some 30), none, .bin .eql (t 29) (c (i64 0))⟩])
 (.cond (t 30)
 (.seq
 (.ops [
 ⟨(some 6), none, .move (c (i64 2))⟩])
 .ret)
 .skip))
 (.seq
 (.ops [
 ⟨(some 6), none, .move (c (i64 3))⟩])
 .ret))))))
attribute [go_sem] a29b
def a29 : AFun := ⟨31, [.tmp 6], a29b, (some 1)⟩
attribute [go_sem] a29
theorem a29_ok : cFun Go.Proofs.Try.prog (hintL [(3, 1)]) (keepL [(58, ⟨[1, 2, 3, 7, 8], [1, 7], []⟩)]) (some 1) Go.Proofs.Try.f29 = some a29 := by kernel_rfl
theorem a29_body : okBody Go.Proofs.Try.prog 29 = true := by kernel_rfl
def a30b : ACode :=
 (.seq
 (.ops [
 ⟨(some 2), none, .boxI (t 0)⟩,
 ⟨(some 4), none, .move (c .sl0)⟩,
 ⟨(some 5), none, .move (c (i64 0))⟩])
 (.seq
 (.ops [
 ⟨(some 9), none, .loadn 3 (t 2)⟩,
 ⟨(some 10), none, .move (t 1)⟩,
 ⟨(some 11), none, .call 79 [(t 9), (t 10)]⟩,
 ⟨(some 8), none, .move (t 11)⟩,
 ⟨(some 12), none, .extract (t 8) 0⟩,
 ⟨(some 13), none, .extract (t 8) 1⟩,
 ⟨(some 6), none, .alloc (List.replicate 6 (i64 0))⟩,
 ⟨none, none, .store 6 (t 6) (t 12)⟩,
 ⟨(some 7), none, .move (t 13)⟩])
 (.seq
 (.seq
 (.ops [
 ⟨(some 14), none, .move (t 7)⟩,
 ⟨(some 15), none, .bin .neq (t 14) (c (i64 0))⟩])
 (.cond (t 15)
 (.seq
 (.ops [
 ⟨(some 16), none, .move (t 7)⟩,
 ⟨(some 4), none, .move (c .sl0)⟩,
 ⟨(some 5), none, .move (t 16)⟩])
 .ret)
 .skip))
 (.seq
 (.ops [
 ⟨(some 17), none, .loadn 6 (t 6)⟩,
 ⟨(some 18), none, .call 80 [(t 17)]⟩,
 ⟨(some 19), none, .call 81 [(t 18)]⟩,
 ⟨(some 4), none, .move (t 19)⟩,
 ⟨(some 5), none, .move (c (i64 0))⟩])
 .ret))))
attribute [go_sem] a30b
def a30 : AFun := ⟨20, [.tmp 4, .tmp 5], a30b, (some 1)⟩
attribute [go_sem] a30
theorem a30_ok : cFun Go.Proofs.Try.prog (hintL [(2, 1)]) (fun _ => ⟨[], [], []⟩) (some 1) Go.Proofs.Try.f30 = some a30 := by kernel_rfl
theorem a30_body : okBody Go.Proofs.Try.prog 30 = true := by kernel_rfl
def a31b : ACode :=
 (.seq
 (.ops [
 ⟨(some 2), none, .move (c .sl0)⟩])
 (.seq
 (.ops [
 ⟨(some 3), none, .buildSl [] 0 []⟩,
 ⟨(some 4), none, .move (t 0)⟩,
 ⟨(some 5), none, .append 1 8 (t 3) (t 4)⟩,
 ⟨(some 2), none, .move (t 5)⟩])
 .ret))
attribute [go_sem] a31b
def a31 : AFun := ⟨6, [.tmp 2], a31b, (some 1)⟩
attribute [go_sem] a31
theorem a31_ok : cFun Go.Proofs.Try.prog (fun _ => 0) (fun _ => ⟨[], [], []⟩) (some 1) Go.Proofs.Try.f31 = some a31 := by kernel_rfl
theorem a31_body : okBody Go.Proofs.Try.prog 31 = true := by kernel_rfl
def a31v1b : ACode :=
 (.seq
 (.ops [
 ⟨(some 2), none, .move (c .sl0)⟩])
 (.seq
 (.ops [
 ⟨(some 3), none, .buildSl [] 0 []⟩,
 ⟨(some 4), none, .move (t 0)⟩,
 ⟨(some 5), none, .append 1 8 (t 3) (t 4)⟩,
 ⟨(some 2), none, .move (t 5)⟩])
 .ret))
attribute [go_sem] a31v1b
def a31v1 : AFun := ⟨6, [.tmp 2], a31v1b, none⟩
attribute [go_sem] a31v1
theorem a31v1_ok : cFun Go.Proofs.Try.prog (hintL [(9999, 0)]) (fun _ => ⟨[], [], []⟩) none Go.Proofs.Try.f31 = some a31v1 := by kernel_rfl
theorem a31v1_body : okBody Go.Proofs.Try.prog 31 = true := by kernel_rfl
def a31v2b : ACode :=
 (.seq
 (.ops [
 ⟨(some 2), none, .move (c .sl0)⟩])
 (.seq
 (.ops [
 ⟨(some 3), none, .buildSl [] 0 []⟩,
 ⟨(some 4), none, .move (t 0)⟩,
 ⟨(some 5), none, .appendHs 1 8 (t 3) (t 4)⟩,
 ⟨(some 2), none, .move (t 5)⟩])
 .ret))
attribute [go_sem] a31v2b
def a31v2 : AFun := ⟨6, [.tmp 2], a31v2b, none⟩
attribute [go_sem] a31v2
theorem a31v2_ok : cFun Go.Proofs.Try.prog (hintL [(5, 1)]) (fun _ => ⟨[], [], []⟩) none Go.Proofs.Try.f31 = some a31v2 := by kernel_rfl
theorem a31v2_body : okBody Go.Proofs.Try.prog 31 = true := by kernel_rfl
def a32b : ACode :=
 (.seq
 (.ops [
 ⟨(some 1), none, .boxI (t 0)⟩,
 ⟨(some 2), none, .move (c (i64 0))⟩])
 (.seq
 (.ops [
 ⟨(some 3), none, .loadn 3 (t 1)⟩,
 ⟨(some 4), none, .call 73 [(t 3)]⟩,
 ⟨(some 2), none, .move (t 4)⟩])
 .ret))
attribute [go_sem] a32b
def a32 : AFun := ⟨5, [.tmp 2], a32b, (some 1)⟩
attribute [go_sem] a32
theorem a32_ok : cFun Go.Proofs.Try.prog (hintL [(1, 1)]) (fun _ => ⟨[], [], []⟩) (some 1) Go.Proofs.Try.f32 = some a32 := by kernel_rfl
theorem a32_body : okBody Go.Proofs.Try.prog 32 = true := by kernel_rfl
def a33_l0b : ACode :=
 (.seq
 (.seq
 (.ops [
 ⟨(some 12), none, .move (t 5)⟩,
 ⟨(some 13), none, .move (t 1)⟩,
 ⟨(some 14), none, .len (t 13)⟩,
 ⟨(some 15), none, .bin .lss (t 12) (t 14)⟩])
 (.cond (t 15)
 .skip
 (.exit 0)))
 (.seq
 (.block 1 (.seq
 (.dops [
 (⟨(some 18), none, .move (t 1)⟩, 0, 0),
 (⟨(some 19), none, .move (t 5)⟩, 0, 0),
 (⟨(some 20), none, .indexSl 1 (t 18) (t 19)⟩, 0, 0),
 (⟨(some 21), none, .load1 (t 20)⟩, 0, 0),
 (⟨(some 22), none, .fieldAddr 1 (t 2)⟩, 0, 0),
 (⟨(some 23), none, .load1 (t 22)⟩, 0, 0),
 (⟨(some 24), none, .move (t 5)⟩, 0, 0),
 (⟨(some 25), none, .indexSl 4 (t 23) (t 24)⟩, 0, 0),
 (⟨(some 26), none, .fieldAddr 2 (t 25)⟩, 0, 0),
 (⟨(some 27), none, .loadn 2 (t 26)⟩, 0, 0),
 (⟨(some 28), none, .call 82 [(t 21), (t 27)]⟩, 0, 0),
 (⟨(some 29), none, .un .not (t 28)⟩, 1, 1)])
 (.cond (t 29)
 (.seq
 (.ops [
 ⟨(some 4), none, .move (c (.bool false))⟩])
 .ret)
 .skip)))
 (.ops [
 ⟨(some 16), none, .move (t 5)⟩,
 ⟨(some 17), none, .bin .add (t 16) (c (i64 1))⟩,
 ⟨(some 5), none, .move (t 17)⟩])))
attribute [go_sem] a33_l0b
def a33_l0 : ACode := a33_l0b
@[go_sem] theorem a33_l0_ev (H : Han) (fr : List AVal) (s : St) : evalCode H a33_l0 fr s = evalCode H a33_l0b fr s := (rfl)
def a33b : ACode :=
 (.seq
 (.ops [
 ⟨(some 2), none, .boxI (t 0)⟩,
 ⟨(some 4), none, .move (c (.bool false))⟩])
 (.seq
 (.seq
 (.ops [
 ⟨(some 6), none, .move (t 1)⟩,
 ⟨(some 7), none, .len (t 6)⟩,
 ⟨(some 8), none, .fieldAddr 1 (t 2)⟩,
 ⟨(some 9), none, .load1 (t 8)⟩,
 ⟨(some 10), none, .len (t 9)⟩,
 ⟨(some 11), none, .bin .neq (t 7) (t 10)⟩])
 (.cond (t 11)
 (.seq
 (.ops [
 ⟨(some 4), none, .move (c (.bool false))⟩])
 .ret)
 .skip))
 (.seq
 (.seq
 (.ops [
 ⟨(some 5), none, .move (c (i64 0))⟩])
 (.block 0 (.loop ⟨[1, 2, 5], [], [4]⟩ a33_l0)))
 (.seq
 (.ops [
 ⟨(some 4), none, .move (c (.bool true))⟩])
 .ret))))
attribute [go_sem] a33b
def a33 : AFun := ⟨30, [.tmp 4], a33b, (some 1)⟩
attribute [go_sem] a33
theorem a33_ok : cFun Go.Proofs.Try.prog (hintL [(2, 1)]) (keepL [(58, ⟨[1, 2, 5], [], [4]⟩)]) (some 1) Go.Proofs.Try.f33 = some a33 := by kernel_rfl
theorem a33_body : okBody Go.Proofs.Try.prog 33 = true := by kernel_rfl
def a34_l0b : ACode :=
 (.seq
 (.seq
 (.ops [
 ⟨(some 17), none, .move (t 9)⟩,
 ⟨(some 18), none, .bin .gtr (t 17) (c (i64 0))⟩])
 (.cond (t 18)
 .skip
 (.exit 0)))
 (.seq
 (.block 1 (.seq
 (.ops [
 ⟨(some 23), none, .move (t 9)⟩,
 ⟨(some 24), none, .move (t 7)⟩,
 ⟨(some 25), none, .bin .and (t 23) (t 24)⟩,
 ⟨(some 26), none, .bin .neq (t 25) (c (i64 0))⟩,
 ⟨(some 27), none, .move (t 26)⟩,
 ⟨(some 28), some (27, true), .loadn 3 (t 3)⟩,
 ⟨(some 29), some (27, true), .move (t 1)⟩,
 ⟨(some 30), some (27, true), .move (t 9)⟩,
 ⟨(some 31), some (27, true), .call 83 [(t 28), (t 29), (t 30)]⟩,
 ⟨(some 32), some (27, true), .bin .eql (t 31) (c (i64 0))⟩,
 ⟨(some 33), none, .pick (t 27) (t 32) (c (.bool false))⟩])
 (.cond (t 33)
 (.ops [
 ⟨(some 34), none, .move (t 8)⟩,
 ⟨(some 35), none, .loadn 3 (t 3)⟩,
 ⟨(some 36), none, .move (t 1)⟩,
 ⟨(some 37), none, .move (t 2)⟩,
 ⟨(some 38), none, .move (t 9)⟩,
 ⟨(some 39), none, .bin .andNot (t 37) (t 38)⟩,
 ⟨(some 40), none, .call 34 [(t 35), (t 36), (t 39)]⟩,
 ⟨(some 41), none, .bin .add (c (i64 1)) (t 40)⟩,
 ⟨(some 42), none, .maxmin true [(t 34), (t 41)]⟩,
 ⟨(some 8), none, .move (t 42)⟩])
 .skip)))
 (.ops [
 ⟨(some 19), none, .move (t 9)⟩,
 ⟨(some 20), none, .bin .sub (t 19) (c (i64 1))⟩,
 ⟨(some 21), none, .move (t 2)⟩,
 ⟨(some 22), none, .bin .and (t 20) (t 21)⟩,
 ⟨(some 9), none, .move (t 22)⟩])))
attribute [go_sem] a34_l0b
def a34_l0 : ACode := a34_l0b
def a34b : ACode :=
 (.seq
 (.ops [
 ⟨(some 3), none, .boxI (t 0)⟩,
 ⟨(some 6), none, .move (c (i64 0))⟩])
 (.seq
 (.seq
 (.ops [
 ⟨(some 10), none, .move (t 2)⟩,
 ⟨(some 11), none, .bin .eql (t 10) (c (i64 0))⟩])
 (.cond (t 11)
 (.seq
 (.ops [
 ⟨(some 6), none, .move (c (i64 0))⟩])
 .ret)
 .skip))
 (.seq
 (.ops [
 ⟨(some 12), none, .move (t 2)⟩,
 ⟨(some 13), none, .move (t 2)⟩,
 ⟨(some 14), none, .un .neg (t 13)⟩,
 ⟨(some 15), none, .bin .and (t 12) (t 14)⟩,
 ⟨(some 7), none, .move (t 15)⟩])
 (.seq
 (.ops [
 ⟨(some 8), none, .move (c (i64 0))⟩])
 (.seq
 (.seq
 (.ops [
 ⟨(some 16), none, .move (t 2)⟩,
 ⟨(some 9), none, .move (t 16)⟩])
 (.block 0 (.loop ⟨[1, 2, 3, 7, 8, 9], [8], []⟩ a34_l0)))
 (.seq
 (.ops [
 ⟨(some 43), none, .move (t 8)⟩,
 ⟨(some 6), none, .move (t 43)⟩])
 .ret))))))
attribute [go_sem] a34b
def a34 : AFun := ⟨44, [.tmp 6], a34b, (some 1)⟩
attribute [go_sem] a34
theorem a34_ok : cFun Go.Proofs.Try.prog (hintL [(3, 1)]) (keepL [(250, ⟨[1, 2, 3, 7, 8, 9], [8], []⟩)]) (some 1) Go.Proofs.Try.f34 = some a34 := by kernel_rfl
theorem a34_body : okBody Go.Proofs.Try.prog 34 = true := by kernel_rfl
def a35_l0b : ACode :=
 (.seq
 (.seq
 (.ops [
 ⟨(some 7), none, .move (t 6)⟩,
 ⟨(some 8), none, .fieldAddr 0 (t 2)⟩,
 ⟨(some 9), none, .load1 (t 8)⟩,
 ⟨(some 10), none, .bin .lss (t 7) (t 9)⟩])
 (.cond (t 10)
 .skip
 (.exit 0)))
 (.seq
 (.block 1 (.seq
 (.ops [
 ⟨(some 13), none, .loadn 3 (t 2)⟩,
 ⟨(some 14), none, .move (t 1)⟩,
 ⟨(some 15), none, .move (t 6)⟩,
 ⟨(some 16), none, .call 48 [(t 13), (t 14), (t 15)]⟩,
 ⟨(some 17), none, .bin .neq (t 16) (c (i64 0))⟩])
 (.cond (t 17)
 (.ops [
 ⟨(some 18), none, .move (t 5)⟩,
 ⟨(some 19), none, .move (t 6)⟩,
 ⟨(some 20), none, .conv .u64 (t 19)⟩,
 ⟨(some 21), none, .bin .shl (c (i64 1)) (t 20)⟩,
 ⟨(some 22), none, .bin .or (t 18) (t 21)⟩,
 ⟨(some 5), none, .move (t 22)⟩])
 .skip)))
 (.ops [
 ⟨(some 11), none, .move (t 6)⟩,
 ⟨(some 12), none, .bin .add (t 11) (c (i64 1))⟩,
 ⟨(some 6), none, .move (t 12)⟩])))
attribute [go_sem] a35_l0b
def a35_l0 : ACode := a35_l0b
def a35b : ACode :=
 (.seq
 (.ops [
 ⟨(some 2), none, .boxI (t 0)⟩,
 ⟨(some 4), none, .move (c (i64 0))⟩])
 (.seq
 (.ops [
 ⟨(some 5), none, .move (c (i64 0))⟩])
 (.seq
 (.seq
 (.ops [
 ⟨(some 6), none, .move (c (i64 0))⟩])
 (.block 0 (.loop ⟨[1, 2, 5, 6], [5], []⟩ a35_l0)))
 (.seq
 (.ops [
 ⟨(some 23), none, .move (t 5)⟩,
 ⟨(some 4), none, .move (t 23)⟩])
 .ret))))
attribute [go_sem] a35b
def a35 : AFun := ⟨24, [.tmp 4], a35b, (some 1)⟩
attribute [go_sem] a35
theorem a35_ok : cFun Go.Proofs.Try.prog (hintL [(2, 1)]) (keepL [(58, ⟨[1, 2, 5, 6], [5], []⟩)]) (some 1) Go.Proofs.Try.f35 = some a35 := by kernel_rfl
theorem a35_body : okBody Go.Proofs.Try.prog 35 = true := by kernel_rfl
def a36_l0b : ACode :=
 (.seq
 (.seq
 (.ops [
 ⟨(some 4), none, .move (t 3)⟩,
 ⟨(some 5), none, .move (t 0)⟩,
 ⟨(some 6), none, .len (t 5)⟩,
 ⟨(some 7), none, .bin .lss (t 4) (t 6)⟩,
 ⟨(some 8), none, .move (t 7)⟩,
 ⟨(some 9), some (8, true), .move (t 3)⟩,
 ⟨(some 10), some (8, true), .bin .lss (t 9) (c (i64 7))⟩,
 ⟨(some 11), none, .pick (t 8) (t 10) (c (.bool false))⟩])
 (.cond (t 11)
 .skip
 (.exit 0)))
 (.seq
 (.block 1 (.seq
 (.ops [
 ⟨(some 14), none, .move (t 0)⟩,
 ⟨(some 15), none, .move (t 3)⟩,
 ⟨(some 16), none, .indexSl 1 (t 14) (t 15)⟩,
 ⟨(some 17), none, .load1 (t 16)⟩,
 ⟨(some 18), none, .len (t 17)⟩,
 ⟨(some 19), none, .bin .gtr (t 18) (c (i64 6))⟩])
 (.cond (t 19)
 (.seq
 (.ops [
 ⟨(some 2), none, .move (c (.bool false))⟩])
 .ret)
 .skip)))
 (.ops [
 ⟨(some 12), none, .move (t 3)⟩,
 ⟨(some 13), none, .bin .add (t 12) (c (i64 1))⟩,
 ⟨(some 3), none, .move (t 13)⟩])))
attribute [go_sem] a36_l0b
def a36_l0 : ACode := a36_l0b
def a36b : ACode :=
 (.seq
 (.ops [
 ⟨(some 2), none, .move (c (.bool false))⟩])
 (.seq
 (.seq
 (.ops [
 ⟨(some 3), none, .move (c (i64 0))⟩])
 (.block 0 (.loop ⟨[0, 3], [0], [2]⟩ a36_l0)))
 (.seq
 (.ops [
 ⟨(some 20), none, .move (t 0)⟩,
 ⟨(some 21), none, .len (t 20)⟩,
 ⟨(some 22), none, .bin .leq (t 21) (c (i64 6))⟩,
 ⟨(some 2), none, .move (t 22)⟩])
 .ret)))
attribute [go_sem] a36b
def a36 : AFun := ⟨23, [.tmp 2], a36b, (some 1)⟩
attribute [go_sem] a36
theorem a36_ok : cFun Go.Proofs.Try.prog (fun _ => 0) (keepL [(26, ⟨[0, 3], [0], [2]⟩)]) (some 1) Go.Proofs.Try.f36 = some a36 := by kernel_rfl
theorem a36_body : okBody Go.Proofs.Try.prog 36 = true := by kernel_rfl
def a37_l0b : ACode :=
 (.seq
 (.seq
 (.ops [
 ⟨(some 21), none, .move (t 10)⟩,
 ⟨(some 22), none, .move (t 2)⟩,
 ⟨(some 23), none, .move (t 8)⟩,
 ⟨(some 24), none, .indexSl 1 (t 22) (t 23)⟩,
 ⟨(some 25), none, .load1 (t 24)⟩,
 ⟨(some 26), none, .len (t 25)⟩,
 ⟨(some 27), none, .bin .lss (t 21) (t 26)⟩])
 (.cond (t 27)
 .skip
 (.exit 2)))
 (.seq
 (.block 3 (.seq
 (.ops [
 ⟨(some 30), none, .move (t 2)⟩,
 ⟨(some 31), none, .move (t 8)⟩,
 ⟨(some 32), none, .indexSl 1 (t 30) (t 31)⟩,
 ⟨(some 33), none, .load1 (t 32)⟩,
 ⟨(some 34), none, .move (t 10)⟩,
 ⟨(some 35), none, .indexSl 1 (t 33) (t 34)⟩,
 ⟨(some 36), none, .load1 (t 35)⟩,
 ⟨(some 11), none, .move (t 36)⟩])
 (.seq
 (.seq
 (.ops [
 ⟨(some 37), none, .move (t 11)⟩,
 ⟨(some 38), none, .fieldAddr 0 (t 3)⟩,
 ⟨(some 39), none, .load1 (t 38)⟩,
 ⟨(some 40), none, .bin .sub (t 39) (c (i64 1))⟩,
 ⟨(some 41), none, .call 54 [(t 37), (c (i64 0)), (t 40)]⟩,
 ⟨(some 42), none, .un .not (t 41)⟩,
 ⟨(some 43), none, .move (t 42)⟩,
 ⟨(some 44), some (43, false), .move (t 10)⟩,
 ⟨(some 45), some (43, false), .bin .gtr (t 44) (c (i64 0))⟩,
 ⟨(some 46), some (43, false), .move (t 45)⟩,
 ⟨(some 47), some (46, true), .move (t 11)⟩,
 ⟨(some 48), some (46, true), .move (t 2)⟩,
 ⟨(some 49), some (46, true), .move (t 8)⟩,
 ⟨(some 50), some (46, true), .indexSl 1 (t 48) (t 49)⟩,
 ⟨(some 51), some (46, true), .load1 (t 50)⟩,
 ⟨(some 52), some (46, true), .move (t 10)⟩,
 ⟨(some 53), some (46, true), .bin .sub (t 52) (c (i64 1))⟩,
 ⟨(some 54), some (46, true), .indexSl 1 (t 51) (t 53)⟩,
 ⟨(some 55), some (46, true), .load1 (t 54)⟩,
 ⟨(some 56), some (46, true), .bin .leq (t 47) (t 55)⟩,
 ⟨(some 57), some (43, false), .pick (t 46) (t 56) (c (.bool false))⟩,
 ⟨(some 58), none, .pick (t 43) (c (.bool true)) (t 57)⟩,
 ⟨(some 59), none, .move (t 58)⟩,
 ⟨(some 60), some (59, false), .move (t 7)⟩,
 ⟨(some 61), some (59, false), .move (t 11)⟩,
 ⟨(some 62), some (59, false), .conv .u64 (t 61)⟩,
 ⟨(some 63), some (59, false), .bin .shl (c (i64 1)) (t 62)⟩,
 ⟨(some 64), some (59, false), .bin .and (t 60) (t 63)⟩,
 ⟨(some 65), some (59, false), .bin .eql (t 64) (c (i64 0))⟩,
 ⟨(some 66), none, .pick (t 59) (c (.bool true)) (t 65)⟩])
 (.cond (t 66)
 (.seq
 (.ops [
 ⟨(some 6), none, .move (c (.bool false))⟩])
 .ret)
 .skip))
 (.ops [
 ⟨(some 67), none, .move (t 9)⟩,
 ⟨(some 68), none, .move (t 11)⟩,
 ⟨(some 69), none, .conv .u64 (t 68)⟩,
 ⟨(some 70), none, .bin .shl (c (i64 1)) (t 69)⟩,
 ⟨(some 71), none, .bin .or (t 67) (t 70)⟩,
 ⟨(some 9), none, .move (t 71)⟩]))))
 (.ops [
 ⟨(some 28), none, .move (t 10)⟩,
 ⟨(some 29), none, .bin .add (t 28) (c (i64 1))⟩,
 ⟨(some 10), none, .move (t 29)⟩])))
attribute [go_sem] a37_l0b
def a37_l0 : ACode := a37_l0b
def a37_l1b : ACode :=
 (.seq
 (.seq
 (.ops [
 ⟨(some 15), none, .move (t 8)⟩,
 ⟨(some 16), none, .move (t 2)⟩,
 ⟨(some 17), none, .len (t 16)⟩,
 ⟨(some 18), none, .bin .lss (t 15) (t 17)⟩])
 (.cond (t 18)
 .skip
 (.exit 0)))
 (.seq
 (.block 1 (.seq
 (.ops [
 ⟨(some 9), none, .move (c (i64 0))⟩])
 (.seq
 (.seq
 (.ops [
 ⟨(some 10), none, .move (c (i64 0))⟩])
 (.block 2 (.loop ⟨[1, 2, 3, 7, 8, 9, 10], [1, 2, 3, 7, 8, 9], [6]⟩ a37_l0)))
 (.seq
 (.seq
 (.ops [
 ⟨(some 72), none, .move (t 9)⟩,
 ⟨(some 73), none, .bin .eql (t 72) (c (i64 0))⟩,
 ⟨(some 74), none, .move (t 73)⟩,
 ⟨(some 75), some (74, false), .loadn 3 (t 3)⟩,
 ⟨(some 76), some (74, false), .move (t 1)⟩,
 ⟨(some 77), some (74, false), .move (t 9)⟩,
 ⟨(some 78), some (74, false), .call 83 [(t 75), (t 76), (t 77)]⟩,
 ⟨(some 79), some (74, false), .bin .neq (t 78) (c (i64 0))⟩,
 ⟨(some 80), none, .pick (t 74) (c (.bool true)) (t 79)⟩])
 (.cond (t 80)
 (.seq
 (.ops [
 ⟨(some 6), none, .move (c (.bool false))⟩])
 .ret)
 .skip))
 (.ops [
 ⟨(some 81), none, .move (t 7)⟩,
 ⟨(some 82), none, .move (t 9)⟩,
 ⟨(some 83), none, .bin .andNot (t 81) (t 82)⟩,
 ⟨(some 7), none, .move (t 83)⟩])))))
 (.ops [
 ⟨(some 19), none, .move (t 8)⟩,
 ⟨(some 20), none, .bin .add (t 19) (c (i64 1))⟩,
 ⟨(some 8), none, .move (t 20)⟩])))
attribute [go_sem] a37_l1b
def a37_l1 : ACode := a37_l1b
def a37b : ACode :=
 (.seq
 (.ops [
 ⟨(some 3), none, .boxI (t 0)⟩,
 ⟨(some 6), none, .move (c (.bool false))⟩])
 (.seq
 (.ops [
 ⟨(some 12), none, .loadn 3 (t 3)⟩,
 ⟨(some 13), none, .move (t 1)⟩,
 ⟨(some 14), none, .call 35 [(t 12), (t 13)]⟩,
 ⟨(some 7), none, .move (t 14)⟩])
 (.seq
 (.seq
 (.ops [
 ⟨(some 8), none, .move (c (i64 0))⟩])
 (.block 0 (.loop ⟨[1, 2, 3, 7, 8], [7], [6]⟩ a37_l1)))
 (.seq
 (.ops [
 ⟨(some 84), none, .move (t 7)⟩,
 ⟨(some 85), none, .bin .eql (t 84) (c (i64 0))⟩,
 ⟨(some 6), none, .move (t 85)⟩])
 .ret))))
attribute [go_sem] a37b
def a37 : AFun := ⟨86, [.tmp 6], a37b, (some 1)⟩
attribute [go_sem] a37
theorem a37_ok : cFun Go.Proofs.Try.prog (hintL [(3, 1)]) (keepL [(58, ⟨[1, 2, 3, 7, 8], [7], [6]⟩), (14922, ⟨[1, 2, 3, 7, 8, 9, 10], [1, 2, 3, 7, 8, 9], [6]⟩)]) (some 1) Go.Proofs.Try.f37 = some a37 := by kernel_rfl
theorem a37_body : okBody Go.Proofs.Try.prog 37 = true := by kernel_rfl
def a38b : ACode :=
 (.seq
 (.ops [
 ⟨(some 1), none, .boxI (t 0)⟩,
 ⟨(some 2), none, .alloc [(i64 0), (i64 0)]⟩,
 ⟨(some 3), none, .move (c (i64 0))⟩])
 (.seq
 (.ops [
 ⟨(some 7), none, .loadn 3 (t 1)⟩,
 ⟨(some 8), none, .call 74 [(t 7)]⟩,
 ⟨(some 6), none, .move (t 8)⟩,
 ⟨(some 9), none, .extract (t 6) 0⟩,
 ⟨(some 10), none, .extract (t 6) 1⟩,
 ⟨(some 4), none, .move (t 9)⟩,
 ⟨(some 5), none, .move (t 10)⟩])
 (.seq
 (.seq
 (.ops [
 ⟨(some 11), none, .move (t 5)⟩,
 ⟨(some 12), none, .bin .neq (t 11) (c (i64 0))⟩])
 (.cond (t 12)
 (.seq
 (.ops [
 ⟨(some 13), none, .build [(i64 0), (i64 0)] []⟩,
 ⟨(some 14), none, .move (t 5)⟩,
 ⟨none, none, .store 2 (t 2) (t 13)⟩,
 ⟨(some 3), none, .move (t 14)⟩])
 .ret)
 .skip))
 (.seq
 (.ops [
 ⟨(some 15), none, .build [.nilf] [(0, 1, (c (.fn (.func 84) [] [])))]⟩,
 ⟨(some 16), none, .move (t 4)⟩,
 ⟨(some 17), none, .call 76 [(t 15), (t 16), (c (i64 0))]⟩,
 ⟨none, none, .store 2 (t 2) (t 17)⟩,
 ⟨(some 3), none, .move (c (i64 0))⟩])
 .ret))))
attribute [go_sem] a38b
def a38 : AFun := ⟨18, [.cell 2 (some 2), .tmp 3], a38b, (some 1)⟩
attribute [go_sem] a38
theorem a38_ok : cFun Go.Proofs.Try.prog (hintL [(1, 1)]) (fun _ => ⟨[], [], []⟩) (some 1) Go.Proofs.Try.f38 = some a38 := by kernel_rfl
theorem a38_body : okBody Go.Proofs.Try.prog 38 = true := by kernel_rfl
def a39_l0b : ACode :=
 (.seq
 (.seq
 (.ops [
 ⟨(some 8), none, .move (t 6)⟩,
 ⟨(some 9), none, .move (t 1)⟩,
 ⟨(some 10), none, .len (t 9)⟩,
 ⟨(some 11), none, .bin .lss (t 8) (t 10)⟩])
 (.cond (t 11)
 .skip
 (.exit 0)))
 (.seq
 (.block 1 (.dops [
 (⟨(some 14), none, .loadn 2 (t 5)⟩, 0, 1),
 (⟨(some 15), none, .loadn 3 (t 2)⟩, 0, 0),
 (⟨(some 16), none, .move (t 1)⟩, 0, 0),
 (⟨(some 17), none, .move (t 6)⟩, 0, 0),
 (⟨(some 18), none, .indexSl 1 (t 16) (t 17)⟩, 0, 0),
 (⟨(some 19), none, .load1 (t 18)⟩, 0, 0),
 (⟨(some 20), none, .call 49 [(t 15), (t 19)]⟩, 0, 0),
 (⟨(some 21), none, .call 78 [(t 14), (t 20)]⟩, 1, 1),
 (⟨none, none, .store 2 (t 5) (t 21)⟩, 2, 2)]))
 (.ops [
 ⟨(some 12), none, .move (t 6)⟩,
 ⟨(some 13), none, .bin .add (t 12) (c (i64 1))⟩,
 ⟨(some 6), none, .move (t 13)⟩])))
attribute [go_sem] a39_l0b
def a39_l0 : ACode := a39_l0b
def a39b : ACode :=
 (.seq
 (.ops [
 ⟨(some 2), none, .boxI (t 0)⟩,
 ⟨(some 4), none, .alloc [(i64 0), (i64 0)]⟩])
 (.seq
 (.ops [
 ⟨(some 7), none, .call 77 []⟩,
 ⟨(some 5), none, .alloc [(i64 0), (i64 0)]⟩,
 ⟨none, none, .store 2 (t 5) (t 7)⟩])
 (.seq
 (.seq
 (.ops [
 ⟨(some 6), none, .move (c (i64 0))⟩])
 (.block 0 (.loop ⟨[1, 2, 4, 5, 6], [4, 5], []⟩ a39_l0)))
 (.seq
 (.ops [
 ⟨(some 22), none, .loadn 2 (t 5)⟩,
 ⟨none, none, .store 2 (t 4) (t 22)⟩])
 .ret))))
attribute [go_sem] a39b
def a39 : AFun := ⟨23, [.cell 4 (some 2)], a39b, (some 1)⟩
attribute [go_sem] a39
theorem a39_ok : cFun Go.Proofs.Try.prog (hintL [(2, 1)]) (keepL [(58, ⟨[1, 2, 4, 5, 6], [4, 5], []⟩)]) (some 1) Go.Proofs.Try.f39 = some a39 := by kernel_rfl
theorem a39_body : okBody Go.Proofs.Try.prog 39 = true := by kernel_rfl
def a40_l0b : ACode :=
 (.seq
 (.ops [
 ⟨(some 17), none, .bin .lss (t 16) (t 15)⟩])
 (.seq
 (.cond (t 17)
 .skip
 (.exit 0))
 (.seq
 (.block 1 (.seq
 (.ops [
 ⟨(some 18), none, .move (t 16)⟩,
 ⟨(some 6), none, .move (t 18)⟩])
 (.seq
 (.ops [
 ⟨(some 19), none, .fieldAddr 2 (t 1)⟩,
 ⟨(some 20), none, .load1 (t 19)⟩,
 ⟨(some 21), none, .move (t 6)⟩,
 ⟨(some 22), none, .bin .add (t 21) (c (i64 1))⟩,
 ⟨(some 23), none, .slice 3 (t 20) none (some (t 22)) none⟩,
 ⟨(some 24), none, .fieldAddr 2 (t 5)⟩,
 ⟨none, none, .store 1 (t 24) (t 23)⟩])
 (.seq
 (.ops [
 ⟨(some 25), none, .loadn 3 (t 5)⟩,
 ⟨(some 26), none, .call 85 [(t 25), (c .sl0)]⟩,
 ⟨(some 27), none, .un .not (t 26)⟩])
 (.cond (t 27)
 (.seq
 (.ops [
 ⟨(some 28), none, .move (t 6)⟩,
 ⟨(some 2), none, .move (t 28)⟩,
 ⟨(some 3), none, .move (c (i64 0))⟩])
 .ret)
 .skip)))))
 (.ops [
 ⟨(some 29), none, .bin .add (t 16) (c (i64 1))⟩,
 ⟨(some 16), none, .move (t 29)⟩]))))
attribute [go_sem] a40_l0b
def a40_l0 : ACode := a40_l0b
@[go_sem] theorem a40_l0_ev (H : Han) (fr : List AVal) (s : St) : evalCode H a40_l0 fr s = evalCode H a40_l0b fr s := (rfl)
def a40b : ACode :=
 (.seq
 (.ops [
 ⟨(some 1), none, .boxI (t 0)⟩,
 ⟨(some 2), none, .move (c (i64 0))⟩,
 ⟨(some 3), none, .move (c (i64 0))⟩])
 (.seq
 (.seq
 (.ops [
 ⟨(some 7), none, .loadn 3 (t 1)⟩,
 ⟨(some 8), none, .call 63 [(t 7)]⟩,
 ⟨(some 4), none, .move (t 8)⟩])
 (.seq
 (.ops [
 ⟨(some 9), none, .move (t 4)⟩,
 ⟨(some 10), none, .bin .neq (t 9) (c (i64 0))⟩])
 (.cond (t 10)
 (.seq
 (.ops [
 ⟨(some 11), none, .move (t 4)⟩,
 ⟨(some 2), none, .move (c (i64 0))⟩,
 ⟨(some 3), none, .move (t 11)⟩])
 .ret)
 .skip)))
 (.seq
 (.ops [
 ⟨(some 12), none, .loadn 3 (t 1)⟩,
 ⟨(some 5), none, .alloc [(i64 0), .sl0, .sl0]⟩,
 ⟨none, none, .store 3 (t 5) (t 12)⟩])
 (.seq
 (.seq
 (.ops [
 ⟨(some 13), none, .fieldAddr 2 (t 1)⟩,
 ⟨(some 14), none, .load1 (t 13)⟩,
 ⟨(some 15), none, .len (t 14)⟩,
 ⟨(some 16), none, .move (c (i64 0))⟩])
 (.block 0 (.loop ⟨[1, 5, 15, 16], [], [2, 3]⟩ a40_l0)))
 (.seq
 (.ops [
 ⟨(some 2), none, .move (c (i64 0))⟩,
 ⟨(some 3), none, .move (c (i64 7))⟩])
 .ret)))))
attribute [go_sem] a40b
def a40 : AFun := ⟨30, [.tmp 2, .tmp 3], a40b, (some 1)⟩
attribute [go_sem] a40
theorem a40_ok : cFun Go.Proofs.Try.prog (hintL [(1, 1)]) (keepL [(122, ⟨[1, 5, 15, 16], [], [2, 3]⟩)]) (some 1) Go.Proofs.Try.f40 = some a40 := by kernel_rfl
theorem a40_body : okBody Go.Proofs.Try.prog 40 = true := by kernel_rfl
def a41_l0b : ACode :=
 (.seq
 (.ops [
 ⟨(some 19), none, .bin .lss (t 18) (t 17)⟩])
 (.seq
 (.cond (t 19)
 .skip
 (.exit 0))
 (.seq
 (.block 1 (.seq
 (.ops [
 ⟨(some 20), none, .move (t 18)⟩,
 ⟨(some 7), none, .move (t 20)⟩])
 (.seq
 (.ops [
 ⟨(some 21), none, .load1 (t 6)⟩,
 ⟨(some 22), none, .move (t 7)⟩,
 ⟨(some 23), none, .callv (t 21) [(c .sl0), (c (i64 0)), (t 22)]⟩])
 (.cond (t 23)
 (.exit 0)
 .skip))))
 (.ops [
 ⟨(some 24), none, .bin .add (t 18) (c (i64 1))⟩,
 ⟨(some 18), none, .move (t 24)⟩]))))
attribute [go_sem] a41_l0b
def a41_l0 : ACode := a41_l0b
@[go_sem] theorem a41_l0_ev (H : Han) (fr : List AVal) (s : St) : evalCode H a41_l0 fr s = evalCode H a41_l0b fr s := (rfl)
def a41b : ACode :=
 (.seq
 (.ops [
 ⟨(some 1), none, .boxI (t 0)⟩,
 ⟨(some 2), none, .move (c .sl0)⟩,
 ⟨(some 3), none, .move (c (i64 0))⟩])
 (.seq
 (.seq
 (.ops [
 ⟨(some 8), none, .loadn 3 (t 1)⟩,
 ⟨(some 9), none, .call 63 [(t 8)]⟩,
 ⟨(some 4), none, .move (t 9)⟩])
 (.seq
 (.ops [
 ⟨(some 10), none, .move (t 4)⟩,
 ⟨(some 11), none, .bin .neq (t 10) (c (i64 0))⟩])
 (.cond (t 11)
 (.seq
 (.ops [
 ⟨(some 12), none, .move (t 4)⟩,
 ⟨(some 2), none, .move (c .sl0)⟩,
 ⟨(some 3), none, .move (t 12)⟩])
 .ret)
 .skip)))
 (.seq
 (.ops [
 ⟨(some 5), none, .alloc [.sl0]⟩])
 (.seq
 (.ops [
 ⟨(some 6), none, .alloc [.nilf]⟩])
 (.seq
 (.ops [
 ⟨(some 13), none, .mkFn (.func 86) [] [(t 5), (t 1), (t 6)]⟩,
 ⟨none, none, .store 1 (t 6) (t 13)⟩])
 (.seq
 (.seq
 (.ops [
 ⟨(some 14), none, .fieldAddr 2 (t 1)⟩,
 ⟨(some 15), none, .load1 (t 14)⟩,
 ⟨(some 16), none, .len (t 15)⟩,
 ⟨(some 17), none, .bin .add (t 16) (c (i64 1))⟩,
 ⟨(some 18), none, .move (c (i64 0))⟩])
 (.block 0 (.loop ⟨[5, 6, 17, 18], [5], []⟩ a41_l0)))
 (.seq
 (.ops [
 ⟨(some 25), none, .load1 (t 5)⟩,
 ⟨(some 2), none, .move (t 25)⟩,
 ⟨(some 3), none, .move (c (i64 0))⟩])
 .ret)))))))
attribute [go_sem] a41b
def a41 : AFun := ⟨26, [.tmp 2, .tmp 3], a41b, (some 1)⟩
attribute [go_sem] a41
theorem a41_ok : cFun Go.Proofs.Try.prog (hintL [(1, 1)]) (keepL [(506, ⟨[5, 6, 17, 18], [5], []⟩)]) (some 1) Go.Proofs.Try.f41 = some a41 := by kernel_rfl
theorem a41_body : okBody Go.Proofs.Try.prog 41 = true := by kernel_rfl
def a42_l0b : ACode :=
 (.seq
 (.seq
 (.ops [
 ⟨(some 5), none, .move (t 4)⟩,
 ⟨(some 6), none, .loadn 3 (t 1)⟩,
 ⟨(some 7), none, .call 51 [(t 6)]⟩,
 ⟨(some 8), none, .bin .lss (t 5) (t 7)⟩])
 (.cond (t 8)
 .skip
 (.exit 0)))
 (.seq
 (.block 1 (.dops [
 (⟨(some 11), none, .move (t 3)⟩, 0, 2),
 (⟨(some 12), none, .loadn 3 (t 1)⟩, 0, 1),
 (⟨(some 13), none, .loadn 3 (t 1)⟩, 0, 0),
 (⟨(some 14), none, .move (t 4)⟩, 0, 0),
 (⟨(some 15), none, .call 50 [(t 13), (t 14)]⟩, 0, 0),
 (⟨(some 16), none, .call 88 [(t 12), (t 15)]⟩, 1, 1),
 (⟨(some 17), none, .buildSl [(i64 0)] 1 [(0, 1, (t 16))]⟩, 2, 2),
 (⟨(some 18), none, .append 1 8 (t 11) (t 17)⟩, 2, 2),
 (⟨(some 3), none, .move (t 18)⟩, 3, 3)]))
 (.ops [
 ⟨(some 9), none, .move (t 4)⟩,
 ⟨(some 10), none, .bin .add (t 9) (c (i64 1))⟩,
 ⟨(some 4), none, .move (t 10)⟩])))
attribute [go_sem] a42_l0b
def a42_l0 : ACode := a42_l0b
@[go_sem] theorem a42_l0_ev (H : Han) (fr : List AVal) (s : St) : evalCode H a42_l0 fr s = evalCode H a42_l0b fr s := (rfl)
def a42b : ACode :=
 (.seq
 (.ops [
 ⟨(some 1), none, .boxI (t 0)⟩,
 ⟨(some 2), none, .move (c .sl0)⟩])
 (.seq
 (.ops [
 ⟨(some 3), none, .move (c .sl0)⟩])
 (.seq
 (.seq
 (.ops [
 ⟨(some 4), none, .move (c (i64 0))⟩])
 (.block 0 (.loop ⟨[1, 3, 4], [3], []⟩ a42_l0)))
 (.seq
 (.ops [
 ⟨(some 19), none, .move (t 3)⟩,
 ⟨(some 2), none, .move (t 19)⟩])
 .ret))))
attribute [go_sem] a42b
def a42 : AFun := ⟨20, [.tmp 2], a42b, (some 1)⟩
attribute [go_sem] a42
theorem a42_ok : cFun Go.Proofs.Try.prog (hintL [(1, 1)]) (keepL [(58, ⟨[1, 3, 4], [3], []⟩)]) (some 1) Go.Proofs.Try.f42 = some a42 := by kernel_rfl
theorem a42_body : okBody Go.Proofs.Try.prog 42 = true := by kernel_rfl
def a43_l0b : ACode :=
 (.seq
 (.seq
 (.ops [
 ⟨(some 11), none, .move (t 5)⟩,
 ⟨(some 12), none, .move (t 0)⟩,
 ⟨(some 13), none, .len (t 12)⟩,
 ⟨(some 14), none, .bin .lss (t 11) (t 13)⟩])
 (.cond (t 14)
 .skip
 (.exit 0)))
 (.seq
 (.block 1 (.seq
 (.dops [
 (⟨(some 17), none, .move (t 0)⟩, 0, 0),
 (⟨(some 18), none, .move (t 5)⟩, 0, 0),
 (⟨(some 19), none, .indexSl 1 (t 17) (t 18)⟩, 0, 0),
 (⟨(some 20), none, .load1 (t 19)⟩, 0, 0),
 (⟨(some 21), none, .move (t 1)⟩, 0, 0),
 (⟨(some 22), none, .move (t 5)⟩, 0, 0),
 (⟨(some 23), none, .indexSl 1 (t 21) (t 22)⟩, 0, 0),
 (⟨(some 24), none, .load1 (t 23)⟩, 0, 0),
 (⟨(some 25), none, .bin .neq (t 20) (t 24)⟩, 0, 0)])
 (.cond (t 25)
 (.seq
 (.ops [
 ⟨(some 4), none, .move (c (.bool false))⟩])
 .ret)
 .skip)))
 (.ops [
 ⟨(some 15), none, .move (t 5)⟩,
 ⟨(some 16), none, .bin .add (t 15) (c (i64 1))⟩,
 ⟨(some 5), none, .move (t 16)⟩])))
attribute [go_sem] a43_l0b
def a43_l0 : ACode := a43_l0b
@[go_sem] theorem a43_l0_ev (H : Han) (fr : List AVal) (s : St) : evalCode H a43_l0 fr s = evalCode H a43_l0b fr s := (rfl)
def a43b : ACode :=
 (.seq
 (.ops [
 ⟨(some 4), none, .move (c (.bool false))⟩])
 (.seq
 (.seq
 (.ops [
 ⟨(some 6), none, .move (t 0)⟩,
 ⟨(some 7), none, .len (t 6)⟩,
 ⟨(some 8), none, .move (t 1)⟩,
 ⟨(some 9), none, .len (t 8)⟩,
 ⟨(some 10), none, .bin .neq (t 7) (t 9)⟩])
 (.cond (t 10)
 (.seq
 (.ops [
 ⟨(some 4), none, .move (c (.bool false))⟩])
 .ret)
 .skip))
 (.seq
 (.seq
 (.ops [
 ⟨(some 5), none, .move (c (i64 0))⟩])
 (.block 0 (.loop ⟨[0, 1, 5], [], [4]⟩ a43_l0)))
 (.seq
 (.ops [
 ⟨(some 4), none, .move (c (.bool true))⟩])
 .ret))))
attribute [go_sem] a43b
def a43 : AFun := ⟨26, [.tmp 4], a43b, (some 1)⟩
attribute [go_sem] a43
theorem a43_ok : cFun Go.Proofs.Try.prog (fun _ => 0) (keepL [(58, ⟨[0, 1, 5], [], [4]⟩)]) (some 1) Go.Proofs.Try.f43 = some a43 := by kernel_rfl
theorem a43_body : okBody Go.Proofs.Try.prog 43 = true := by kernel_rfl
def a44_l0b : ACode :=
 (.seq
 (.seq
 (.ops [
 ⟨(some 11), none, .move (t 6)⟩,
 ⟨(some 12), none, .loadn 3 (t 2)⟩,
 ⟨(some 13), none, .call 59 [(t 12)]⟩,
 ⟨(some 14), none, .bin .leq (t 11) (t 13)⟩])
 (.cond (t 14)
 .skip
 (.exit 0)))
 (.seq
 (.block 1 (.seq
 (.ops [
 ⟨(some 17), none, .move (t 6)⟩,
 ⟨(some 18), none, .call 61 [(t 17)]⟩,
 ⟨(some 7), none, .move (t 18)⟩])
 (.seq
 (.ops [
 ⟨(some 19), none, .move (t 7)⟩,
 ⟨(some 20), none, .move (t 5)⟩,
 ⟨(some 21), none, .call 60 [(t 19), (t 20)]⟩,
 ⟨(some 22), none, .move (t 21)⟩,
 ⟨(some 23), some (22, true), .move (t 1)⟩,
 ⟨(some 24), some (22, true), .loadn 3 (t 2)⟩,
 ⟨(some 25), some (22, true), .call 59 [(t 24)]⟩,
 ⟨(some 26), some (22, true), .move (t 6)⟩,
 ⟨(some 27), some (22, true), .bin .andNot (t 25) (t 26)⟩,
 ⟨(some 28), some (22, true), .call 89 [(t 23), (t 27)]⟩,
 ⟨(some 29), none, .pick (t 22) (t 28) (c (.bool false))⟩])
 (.cond (t 29)
 (.ops [
 ⟨(some 30), none, .move (t 7)⟩,
 ⟨(some 5), none, .move (t 30)⟩])
 .skip))))
 (.ops [
 ⟨(some 15), none, .move (t 6)⟩,
 ⟨(some 16), none, .bin .add (t 15) (c (i64 1))⟩,
 ⟨(some 6), none, .move (t 16)⟩])))
attribute [go_sem] a44_l0b
def a44_l0 : ACode := a44_l0b
@[go_sem] theorem a44_l0_ev (H : Han) (fr : List AVal) (s : St) : evalCode H a44_l0 fr s = evalCode H a44_l0b fr s := (rfl)
def a44b : ACode :=
 (.seq
 (.ops [
 ⟨(some 2), none, .boxI (t 0)⟩,
 ⟨(some 4), none, .move (c .sl0)⟩])
 (.seq
 (.ops [
 ⟨(some 8), none, .loadn 3 (t 2)⟩,
 ⟨(some 9), none, .call 59 [(t 8)]⟩,
 ⟨(some 10), none, .call 61 [(t 9)]⟩,
 ⟨(some 5), none, .move (t 10)⟩])
 (.seq
 (.seq
 (.ops [
 ⟨(some 6), none, .move (c (i64 0))⟩])
 (.block 0 (.loop ⟨[1, 2, 5, 6], [5], []⟩ a44_l0)))
 (.seq
 (.ops [
 ⟨(some 31), none, .move (t 5)⟩,
 ⟨(some 4), none, .move (t 31)⟩])
 .ret))))
attribute [go_sem] a44b
def a44 : AFun := ⟨32, [.tmp 4], a44b, (some 1)⟩
attribute [go_sem] a44
theorem a44_ok : cFun Go.Proofs.Try.prog (hintL [(2, 1)]) (keepL [(58, ⟨[1, 2, 5, 6], [5], []⟩)]) (some 1) Go.Proofs.Try.f44 = some a44 := by kernel_rfl
theorem a44_body : okBody Go.Proofs.Try.prog 44 = true := by kernel_rfl
def a45_l0b : ACode :=
 (.seq
 (.seq
 (.ops [
 ⟨(some 6), none, .move (t 5)⟩,
 ⟨(some 7), none, .fieldAddr 2 (t 2)⟩,
 ⟨(some 8), none, .load1 (t 7)⟩,
 ⟨(some 9), none, .len (t 8)⟩,
 ⟨(some 10), none, .bin .lss (t 6) (t 9)⟩])
 (.cond (t 10)
 .skip
 (.exit 0)))
 (.seq
 (.block 1 (.seq
 (.ops [
 ⟨(some 13), none, .move (t 1)⟩,
 ⟨(some 14), none, .move (t 5)⟩,
 ⟨(some 15), none, .conv .u64 (t 14)⟩,
 ⟨(some 16), none, .bin .shl (c (i64 2)) (t 15)⟩,
 ⟨(some 17), none, .bin .sub (t 16) (c (i64 1))⟩,
 ⟨(some 18), none, .call 89 [(t 13), (t 17)]⟩,
 ⟨(some 19), none, .un .not (t 18)⟩])
 (.cond (t 19)
 (.seq
 (.ops [
 ⟨(some 20), none, .move (t 5)⟩,
 ⟨(some 4), none, .move (t 20)⟩])
 .ret)
 .skip)))
 (.ops [
 ⟨(some 11), none, .move (t 5)⟩,
 ⟨(some 12), none, .bin .add (t 11) (c (i64 1))⟩,
 ⟨(some 5), none, .move (t 12)⟩])))
attribute [go_sem] a45_l0b
def a45_l0 : ACode := a45_l0b
@[go_sem] theorem a45_l0_ev (H : Han) (fr : List AVal) (s : St) : evalCode H a45_l0 fr s = evalCode H a45_l0b fr s := (rfl)
def a45b : ACode :=
 (.seq
 (.ops [
 ⟨(some 2), none, .boxI (t 0)⟩,
 ⟨(some 4), none, .move (c (i64 0))⟩])
 (.seq
 (.seq
 (.ops [
 ⟨(some 5), none, .move (c (i64 0))⟩])
 (.block 0 (.loop ⟨[1, 2, 5], [], [4]⟩ a45_l0)))
 (.seq
 (.ops [
 ⟨(some 4), none, .move (c (i64 (-1)))⟩])
 .ret)))
attribute [go_sem] a45b
def a45 : AFun := ⟨21, [.tmp 4], a45b, (some 1)⟩
attribute [go_sem] a45
theorem a45_ok : cFun Go.Proofs.Try.prog (hintL [(2, 1)]) (keepL [(26, ⟨[1, 2, 5], [], [4]⟩)]) (some 1) Go.Proofs.Try.f45 = some a45 := by kernel_rfl
theorem a45_body : okBody Go.Proofs.Try.prog 45 = true := by kernel_rfl
def a46b : ACode :=
 (.seq
 (.ops [
 ⟨(some 1), none, .boxI (t 0)⟩,
 ⟨(some 2), none, .move (c (.bool false))⟩])
 (.seq
 (.ops [
 ⟨(some 3), none, .loadn 3 (t 1)⟩,
 ⟨(some 4), none, .call 21 [(t 3)]⟩,
 ⟨(some 5), none, .move (t 4)⟩,
 ⟨(some 6), some (5, true), .loadn 3 (t 1)⟩,
 ⟨(some 7), some (5, true), .call 32 [(t 6)]⟩,
 ⟨(some 8), some (5, true), .bin .eql (t 7) (c (i64 0))⟩,
 ⟨(some 9), none, .pick (t 5) (t 8) (c (.bool false))⟩,
 ⟨(some 2), none, .move (t 9)⟩])
 .ret))
attribute [go_sem] a46b
def a46 : AFun := ⟨10, [.tmp 2], a46b, (some 1)⟩
attribute [go_sem] a46
theorem a46_ok : cFun Go.Proofs.Try.prog (hintL [(1, 1)]) (fun _ => ⟨[], [], []⟩) (some 1) Go.Proofs.Try.f46 = some a46 := by kernel_rfl
theorem a46_body : okBody Go.Proofs.Try.prog 46 = true := by kernel_rfl
def a46v3b : ACode :=
 (.seq
 (.ops [
 ⟨(some 1), none, .boxI (t 0)⟩,
 ⟨(some 2), none, .move (c (.bool false))⟩])
 (.seq
 (.ops [
 ⟨(some 3), none, .loadn 3 (t 1)⟩,
 ⟨(some 4), none, .call 21 [(t 3)]⟩,
 ⟨(some 5), none, .move (t 4)⟩,
 ⟨(some 6), some (5, true), .loadn 3 (t 1)⟩,
 ⟨(some 7), some (5, true), .call 32 [(t 6)]⟩,
 ⟨(some 8), some (5, true), .bin .eql (t 7) (c (i64 0))⟩,
 ⟨(some 9), none, .pick (t 5) (t 8) (c (.bool false))⟩,
 ⟨(some 2), none, .move (t 9)⟩])
 .ret))
attribute [go_sem] a46v3b
def a46v3 : AFun := ⟨10, [.tmp 2], a46v3b, (some 1000000)⟩
attribute [go_sem] a46v3
theorem a46v3_ok : cFun Go.Proofs.Try.prog (hintL [(9999, 0), (1, 1)]) (fun _ => ⟨[], [], []⟩) (some 1000000) Go.Proofs.Try.f46 = some a46v3 := by kernel_rfl
theorem a46v3_body : okBody Go.Proofs.Try.prog 46 = true := by kernel_rfl
def a47_l0b : ACode :=
 (.seq
 (.seq
 (.ops [
 ⟨(some 6), none, .move (t 4)⟩,
 ⟨(some 7), none, .loadn 3 (t 1)⟩,
 ⟨(some 8), none, .call 51 [(t 7)]⟩,
 ⟨(some 9), none, .bin .lss (t 6) (t 8)⟩])
 (.cond (t 9)
 .skip
 (.exit 0)))
 (.seq
 (.block 1 (.seq
 (.ops [
 ⟨(some 12), none, .loadn 3 (t 1)⟩,
 ⟨(some 13), none, .move (t 4)⟩,
 ⟨(some 14), none, .call 50 [(t 12), (t 13)]⟩,
 ⟨(some 5), none, .move (t 14)⟩])
 (.seq
 (.dops [
 (⟨(some 15), none, .loadn 3 (t 1)⟩, 0, 0),
 (⟨(some 16), none, .move (t 5)⟩, 0, 0),
 (⟨(some 17), none, .call 88 [(t 15), (t 16)]⟩, 0, 0),
 (⟨(some 18), none, .loadn 3 (t 1)⟩, 0, 1),
 (⟨(some 19), none, .call 59 [(t 18)]⟩, 1, 1),
 (⟨(some 20), none, .bin .eql (t 17) (t 19)⟩, 2, 2)])
 (.cond (t 20)
 (.ops [
 ⟨(some 21), none, .move (t 3)⟩,
 ⟨(some 22), none, .move (t 5)⟩,
 ⟨(some 23), none, .buildSl [.sl0] 1 [(0, 1, (t 22))]⟩,
 ⟨(some 24), none, .append 1 24 (t 21) (t 23)⟩,
 ⟨(some 3), none, .move (t 24)⟩])
 .skip))))
 (.ops [
 ⟨(some 10), none, .move (t 4)⟩,
 ⟨(some 11), none, .bin .add (t 10) (c (i64 1))⟩,
 ⟨(some 4), none, .move (t 11)⟩])))
attribute [go_sem] a47_l0b
def a47_l0 : ACode := a47_l0b
def a47b : ACode :=
 (.seq
 (.ops [
 ⟨(some 1), none, .boxI (t 0)⟩,
 ⟨(some 2), none, .move (c .sl0)⟩])
 (.seq
 (.ops [
 ⟨(some 3), none, .move (c .sl0)⟩])
 (.seq
 (.seq
 (.ops [
 ⟨(some 4), none, .move (c (i64 0))⟩])
 (.block 0 (.loop ⟨[1, 3, 4], [3], []⟩ a47_l0)))
 (.seq
 (.ops [
 ⟨(some 25), none, .move (t 3)⟩,
 ⟨(some 2), none, .move (t 25)⟩])
 .ret))))
attribute [go_sem] a47b
def a47 : AFun := ⟨26, [.tmp 2], a47b, (some 1)⟩
attribute [go_sem] a47
theorem a47_ok : cFun Go.Proofs.Try.prog (hintL [(1, 1)]) (keepL [(58, ⟨[1, 3, 4], [3], []⟩)]) (some 1) Go.Proofs.Try.f47 = some a47 := by kernel_rfl
theorem a47_body : okBody Go.Proofs.Try.prog 47 = true := by kernel_rfl

end Go.Proofs.Ytlhfeiacigmliaa
