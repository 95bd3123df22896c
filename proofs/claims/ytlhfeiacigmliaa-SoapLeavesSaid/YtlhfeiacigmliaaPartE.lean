/- The small code of the program's functions, printed by a program of mine. -/
import Derived.Test.YtlhfeiacigmliaaPartC
import Derived.Test.YtlhfeiacigmliaaChecked
set_option linter.all false
namespace Go.Proofs.Ytlhfeiacigmliaa
open Go
set_option maxRecDepth 100000
def a48_l0b : ACode :=
 (.seq
 (.seq
 (.ops [
 ⟨(some 9), none, .move (t 8)⟩,
 ⟨(some 10), none, .fieldAddr 1 (t 3)⟩,
 ⟨(some 11), none, .load1 (t 10)⟩,
 ⟨(some 12), none, .len (t 11)⟩,
 ⟨(some 13), none, .bin .lss (t 9) (t 12)⟩])
 (.cond (t 13)
 .skip
 (.exit 0)))
 (.seq
 (.block 1 (.seq
 (.seq
 (.ops [
 ⟨(some 16), none, .fieldAddr 1 (t 3)⟩,
 ⟨(some 17), none, .load1 (t 16)⟩,
 ⟨(some 18), none, .move (t 8)⟩,
 ⟨(some 19), none, .indexSl 4 (t 17) (t 18)⟩,
 ⟨(some 20), none, .fieldAddr 0 (t 19)⟩,
 ⟨(some 21), none, .load1 (t 20)⟩,
 ⟨(some 22), none, .move (t 2)⟩,
 ⟨(some 23), none, .bin .eql (t 21) (t 22)⟩])
 (.cond (t 23)
 (.ops [
 ⟨(some 24), none, .move (t 7)⟩,
 ⟨(some 25), none, .move (t 1)⟩,
 ⟨(some 26), none, .move (t 8)⟩,
 ⟨(some 27), none, .indexSl 1 (t 25) (t 26)⟩,
 ⟨(some 28), none, .load1 (t 27)⟩,
 ⟨(some 29), none, .bin .add (t 24) (t 28)⟩,
 ⟨(some 7), none, .move (t 29)⟩])
 .skip))
 (.seq
 (.ops [
 ⟨(some 30), none, .fieldAddr 1 (t 3)⟩,
 ⟨(some 31), none, .load1 (t 30)⟩,
 ⟨(some 32), none, .move (t 8)⟩,
 ⟨(some 33), none, .indexSl 4 (t 31) (t 32)⟩,
 ⟨(some 34), none, .fieldAddr 1 (t 33)⟩,
 ⟨(some 35), none, .load1 (t 34)⟩,
 ⟨(some 36), none, .move (t 2)⟩,
 ⟨(some 37), none, .bin .eql (t 35) (t 36)⟩])
 (.cond (t 37)
 (.ops [
 ⟨(some 38), none, .move (t 7)⟩,
 ⟨(some 39), none, .move (t 1)⟩,
 ⟨(some 40), none, .move (t 8)⟩,
 ⟨(some 41), none, .indexSl 1 (t 39) (t 40)⟩,
 ⟨(some 42), none, .load1 (t 41)⟩,
 ⟨(some 43), none, .bin .sub (t 38) (t 42)⟩,
 ⟨(some 7), none, .move (t 43)⟩])
 .skip))))
 (.ops [
 ⟨(some 14), none, .move (t 8)⟩,
 ⟨(some 15), none, .bin .add (t 14) (c (i64 1))⟩,
 ⟨(some 8), none, .move (t 15)⟩])))
attribute [go_sem] a48_l0b
def a48_l0 : ACode := a48_l0b
@[go_sem] theorem a48_l0_ev (H : Han) (fr : List AVal) (s : St) : evalCode H a48_l0 fr s = evalCode H a48_l0b fr s := (rfl)
def a48b : ACode :=
 (.seq
 (.ops [
 ⟨(some 3), none, .boxI (t 0)⟩,
 ⟨(some 6), none, .move (c (i64 0))⟩])
 (.seq
 (.ops [
 ⟨(some 7), none, .move (c (i64 0))⟩])
 (.seq
 (.seq
 (.ops [
 ⟨(some 8), none, .move (c (i64 0))⟩])
 (.block 0 (.loop ⟨[1, 2, 3, 7, 8], [7], []⟩ a48_l0)))
 (.seq
 (.ops [
 ⟨(some 44), none, .move (t 7)⟩,
 ⟨(some 6), none, .move (t 44)⟩])
 .ret))))
attribute [go_sem] a48b
def a48 : AFun := ⟨45, [.tmp 6], a48b, (some 1)⟩
attribute [go_sem] a48
theorem a48_ok : cFun Go.Proofs.Try.prog (hintL [(3, 1)]) (keepL [(58, ⟨[1, 2, 3, 7, 8], [7], []⟩)]) (some 1) Go.Proofs.Try.f48 = some a48 := by kernel_rfl
theorem a48_body : okBody Go.Proofs.Try.prog 48 = true := by kernel_rfl
def a49b : ACode :=
 (.seq
 (.ops [
 ⟨(some 2), none, .boxI (t 0)⟩,
 ⟨(some 4), none, .move (c (i64 0))⟩])
 (.seq
 (.ops [
 ⟨(some 6), none, .loadn 3 (t 2)⟩,
 ⟨(some 7), none, .move (t 1)⟩,
 ⟨(some 8), none, .call 35 [(t 6), (t 7)]⟩,
 ⟨(some 5), none, .move (t 8)⟩])
 (.seq
 (.dops [
 (⟨(some 9), none, .move (t 5)⟩, 0, 0),
 (⟨(some 10), none, .call 61 [(t 9)]⟩, 0, 0),
 (⟨(some 11), none, .len (t 10)⟩, 1, 2),
 (⟨(some 12), none, .loadn 3 (t 2)⟩, 0, 1),
 (⟨(some 13), none, .move (t 1)⟩, 0, 1),
 (⟨(some 14), none, .move (t 5)⟩, 0, 1),
 (⟨(some 15), none, .call 34 [(t 12), (t 13), (t 14)]⟩, 1, 1),
 (⟨(some 16), none, .bin .sub (t 11) (t 15)⟩, 2, 2),
 (⟨(some 4), none, .move (t 16)⟩, 2, 2)])
 .ret)))
attribute [go_sem] a49b
def a49 : AFun := ⟨17, [.tmp 4], a49b, (some 1)⟩
attribute [go_sem] a49
theorem a49_ok : cFun Go.Proofs.Try.prog (hintL [(2, 1)]) (fun _ => ⟨[], [], []⟩) (some 1) Go.Proofs.Try.f49 = some a49 := by kernel_rfl
theorem a49_body : okBody Go.Proofs.Try.prog 49 = true := by kernel_rfl
def a50_l0b : ACode :=
 (.seq
 (.seq
 (.ops [
 ⟨(some 8), none, .move (t 6)⟩,
 ⟨(some 9), none, .fieldAddr 1 (t 2)⟩,
 ⟨(some 10), none, .load1 (t 9)⟩,
 ⟨(some 11), none, .len (t 10)⟩,
 ⟨(some 12), none, .bin .lss (t 8) (t 11)⟩])
 (.cond (t 12)
 .skip
 (.exit 0)))
 (.seq
 (.block 1 (.seq
 (.ops [
 ⟨(some 15), none, .fieldAddr 1 (t 2)⟩,
 ⟨(some 16), none, .load1 (t 15)⟩,
 ⟨(some 17), none, .move (t 6)⟩,
 ⟨(some 18), none, .indexSl 4 (t 16) (t 17)⟩,
 ⟨(some 19), none, .fieldAddr 2 (t 18)⟩,
 ⟨(some 20), none, .loadn 2 (t 19)⟩,
 ⟨(some 7), none, .alloc [(i64 0), (i64 0)]⟩,
 ⟨none, none, .store 2 (t 7) (t 20)⟩])
 (.seq
 (.dops [
 (⟨(some 21), none, .move (t 5)⟩, 0, 1),
 (⟨(some 22), none, .fieldAddr 0 (t 7)⟩, 0, 1),
 (⟨(some 23), none, .load1 (t 22)⟩, 0, 1),
 (⟨(some 24), none, .move (t 1)⟩, 0, 1),
 (⟨(some 25), none, .loadn 2 (t 7)⟩, 0, 0),
 (⟨(some 26), none, .call 90 [(t 25)]⟩, 0, 0),
 (⟨(some 27), none, .bin .rem (t 24) (t 26)⟩, 1, 1),
 (⟨(some 28), none, .bin .add (t 23) (t 27)⟩, 1, 1),
 (⟨(some 29), none, .buildSl [(i64 0)] 1 [(0, 1, (t 28))]⟩, 1, 1),
 (⟨(some 30), none, .append 1 8 (t 21) (t 29)⟩, 1, 1),
 (⟨(some 5), none, .move (t 30)⟩, 2, 2)])
 (.ops [
 ⟨(some 31), none, .move (t 1)⟩,
 ⟨(some 32), none, .loadn 2 (t 7)⟩,
 ⟨(some 33), none, .call 90 [(t 32)]⟩,
 ⟨(some 34), none, .bin .quo (t 31) (t 33)⟩,
 ⟨(some 1), none, .move (t 34)⟩]))))
 (.ops [
 ⟨(some 13), none, .move (t 6)⟩,
 ⟨(some 14), none, .bin .add (t 13) (c (i64 1))⟩,
 ⟨(some 6), none, .move (t 14)⟩])))
attribute [go_sem] a50_l0b
def a50_l0 : ACode := a50_l0b
@[go_sem] theorem a50_l0_ev (H : Han) (fr : List AVal) (s : St) : evalCode H a50_l0 fr s = evalCode H a50_l0b fr s := (rfl)
def a50b : ACode :=
 (.seq
 (.ops [
 ⟨(some 2), none, .boxI (t 0)⟩,
 ⟨(some 4), none, .move (c .sl0)⟩])
 (.seq
 (.ops [
 ⟨(some 5), none, .move (c .sl0)⟩])
 (.seq
 (.seq
 (.ops [
 ⟨(some 6), none, .move (c (i64 0))⟩])
 (.block 0 (.loop ⟨[1, 2, 5, 6], [5], []⟩ a50_l0)))
 (.seq
 (.ops [
 ⟨(some 35), none, .move (t 5)⟩,
 ⟨(some 4), none, .move (t 35)⟩])
 .ret))))
attribute [go_sem] a50b
def a50 : AFun := ⟨36, [.tmp 4], a50b, (some 1)⟩
attribute [go_sem] a50
theorem a50_ok : cFun Go.Proofs.Try.prog (hintL [(2, 1)]) (keepL [(58, ⟨[1, 2, 5, 6], [5], []⟩)]) (some 1) Go.Proofs.Try.f50 = some a50 := by kernel_rfl
theorem a50_body : okBody Go.Proofs.Try.prog 50 = true := by kernel_rfl
def a51_l0b : ACode :=
 (.seq
 (.seq
 (.ops [
 ⟨(some 5), none, .move (t 4)⟩,
 ⟨(some 6), none, .fieldAddr 1 (t 1)⟩,
 ⟨(some 7), none, .load1 (t 6)⟩,
 ⟨(some 8), none, .len (t 7)⟩,
 ⟨(some 9), none, .bin .lss (t 5) (t 8)⟩])
 (.cond (t 9)
 .skip
 (.exit 0)))
 (.seq
 (.block 1 (.ops [
 ⟨(some 12), none, .move (t 3)⟩,
 ⟨(some 13), none, .fieldAddr 1 (t 1)⟩,
 ⟨(some 14), none, .load1 (t 13)⟩,
 ⟨(some 15), none, .move (t 4)⟩,
 ⟨(some 16), none, .indexSl 4 (t 14) (t 15)⟩,
 ⟨(some 17), none, .fieldAddr 2 (t 16)⟩,
 ⟨(some 18), none, .loadn 2 (t 17)⟩,
 ⟨(some 19), none, .call 90 [(t 18)]⟩,
 ⟨(some 20), none, .bin .mul (t 12) (t 19)⟩,
 ⟨(some 21), none, .maxmin false [(c (i64 3000)), (t 20)]⟩,
 ⟨(some 3), none, .move (t 21)⟩]))
 (.ops [
 ⟨(some 10), none, .move (t 4)⟩,
 ⟨(some 11), none, .bin .add (t 10) (c (i64 1))⟩,
 ⟨(some 4), none, .move (t 11)⟩])))
attribute [go_sem] a51_l0b
def a51_l0 : ACode := a51_l0b
@[go_sem] theorem a51_l0_ev (H : Han) (fr : List AVal) (s : St) : evalCode H a51_l0 fr s = evalCode H a51_l0b fr s := (rfl)
def a51b : ACode :=
 (.seq
 (.ops [
 ⟨(some 1), none, .boxI (t 0)⟩,
 ⟨(some 2), none, .move (c (i64 0))⟩])
 (.seq
 (.ops [
 ⟨(some 3), none, .move (c (i64 1))⟩])
 (.seq
 (.seq
 (.ops [
 ⟨(some 4), none, .move (c (i64 0))⟩])
 (.block 0 (.loop ⟨[1, 3, 4], [3], []⟩ a51_l0)))
 (.seq
 (.ops [
 ⟨(some 22), none, .move (t 3)⟩,
 ⟨(some 2), none, .move (t 22)⟩])
 .ret))))
attribute [go_sem] a51b
def a51 : AFun := ⟨23, [.tmp 2], a51b, (some 1)⟩
attribute [go_sem] a51
theorem a51_ok : cFun Go.Proofs.Try.prog (hintL [(1, 1)]) (keepL [(58, ⟨[1, 3, 4], [3], []⟩)]) (some 1) Go.Proofs.Try.f51 = some a51 := by kernel_rfl
theorem a51_body : okBody Go.Proofs.Try.prog 51 = true := by kernel_rfl
def a52b : ACode :=
 (.seq
 (.ops [
 ⟨(some 2), none, .boxI (t 0)⟩,
 ⟨(some 4), none, .move (c .sl0)⟩,
 ⟨(some 5), none, .move (c (i64 0))⟩])
 (.seq
 (.ops [
 ⟨(some 9), none, .loadn 3 (t 2)⟩,
 ⟨(some 10), none, .move (t 1)⟩,
 ⟨(some 11), none, .call 79 [(t 9), (t 10)]⟩,
 ⟨(some 8), none, .move (t 11)⟩,
 ⟨(some 12), none, .extract (t 8) 0⟩,
 ⟨(some 13), none, .extract (t 8) 1⟩,
 ⟨(some 6), none, .alloc (List.replicate 6 (i64 0))⟩,
 ⟨none, none, .store 6 (t 6) (t 12)⟩,
 ⟨(some 7), none, .move (t 13)⟩])
 (.seq
 (.seq
 (.ops [
 ⟨(some 14), none, .move (t 7)⟩,
 ⟨(some 15), none, .bin .neq (t 14) (c (i64 0))⟩])
 (.cond (t 15)
 (.seq
 (.ops [
 ⟨(some 16), none, .move (t 7)⟩,
 ⟨(some 4), none, .move (c .sl0)⟩,
 ⟨(some 5), none, .move (t 16)⟩])
 .ret)
 .skip))
 (.seq
 (.ops [
 ⟨(some 17), none, .fieldAddr 0 (t 2)⟩,
 ⟨(some 18), none, .load1 (t 17)⟩,
 ⟨(some 19), none, .sliceArr 6 1 (t 6) none (some (t 18)) none⟩,
 ⟨(some 20), none, .call 87 [(t 19)]⟩,
 ⟨(some 4), none, .move (t 20)⟩,
 ⟨(some 5), none, .move (c (i64 0))⟩])
 .ret))))
attribute [go_sem] a52b
def a52 : AFun := ⟨21, [.tmp 4, .tmp 5], a52b, (some 1)⟩
attribute [go_sem] a52
theorem a52_ok : cFun Go.Proofs.Try.prog (hintL [(2, 1)]) (fun _ => ⟨[], [], []⟩) (some 1) Go.Proofs.Try.f52 = some a52 := by kernel_rfl
theorem a52_body : okBody Go.Proofs.Try.prog 52 = true := by kernel_rfl
def a53_l0b : ACode :=
 (.seq
 (.ops [
 ⟨(some 27), none, .bin .lss (t 26) (t 25)⟩])
 (.seq
 (.cond (t 27)
 .skip
 (.exit 0))
 (.seq
 (.block 1 (.seq
 (.ops [
 ⟨(some 28), none, .indexSl 1 (t 24) (t 26)⟩,
 ⟨(some 29), none, .load1 (t 28)⟩,
 ⟨(some 11), none, .move (t 29)⟩])
 (.ops [
 ⟨(some 30), none, .move (t 8)⟩,
 ⟨(some 31), none, .move (t 9)⟩,
 ⟨(some 32), none, .move (t 11)⟩,
 ⟨(some 33), none, .call 91 [(t 31), (t 32)]⟩,
 ⟨(some 34), none, .append 3 24 (t 30) (t 33)⟩,
 ⟨(some 8), none, .move (t 34)⟩])))
 (.ops [
 ⟨(some 35), none, .bin .add (t 26) (c (i64 1))⟩,
 ⟨(some 26), none, .move (t 35)⟩]))))
attribute [go_sem] a53_l0b
def a53_l0 : ACode := a53_l0b
@[go_sem] theorem a53_l0_ev (H : Han) (fr : List AVal) (s : St) : evalCode H a53_l0 fr s = evalCode H a53_l0b fr s := (rfl)
def a53b : ACode :=
 (.seq
 (.ops [
 ⟨(some 2), none, .boxI (t 0)⟩,
 ⟨(some 4), none, .move (c .sl0)⟩,
 ⟨(some 5), none, .move (c (i64 0))⟩])
 (.seq
 (.ops [
 ⟨(some 13), none, .loadn 3 (t 2)⟩,
 ⟨(some 14), none, .move (t 1)⟩,
 ⟨(some 15), none, .call 79 [(t 13), (t 14)]⟩,
 ⟨(some 12), none, .move (t 15)⟩,
 ⟨(some 16), none, .extract (t 12) 0⟩,
 ⟨(some 17), none, .extract (t 12) 1⟩,
 ⟨(some 6), none, .alloc (List.replicate 6 (i64 0))⟩,
 ⟨none, none, .store 6 (t 6) (t 16)⟩,
 ⟨(some 7), none, .move (t 17)⟩])
 (.seq
 (.seq
 (.ops [
 ⟨(some 18), none, .move (t 7)⟩,
 ⟨(some 19), none, .bin .neq (t 18) (c (i64 0))⟩])
 (.cond (t 19)
 (.seq
 (.ops [
 ⟨(some 20), none, .move (t 7)⟩,
 ⟨(some 4), none, .move (c .sl0)⟩,
 ⟨(some 5), none, .move (t 20)⟩])
 .ret)
 .skip))
 (.seq
 (.ops [
 ⟨(some 8), none, .move (c .sl0)⟩])
 (.seq
 (.ops [
 ⟨(some 21), none, .loadn 6 (t 6)⟩,
 ⟨(some 22), none, .call 80 [(t 21)]⟩,
 ⟨(some 9), none, .move (t 22)⟩])
 (.seq
 (.seq
 (.ops [
 ⟨(some 23), none, .move (t 9)⟩,
 ⟨(some 24), none, .call 81 [(t 23)]⟩,
 ⟨(some 25), none, .len (t 24)⟩,
 ⟨(some 26), none, .move (c (i64 0))⟩])
 (.block 0 (.loop ⟨[8, 9, 24, 25, 26], [8], []⟩ a53_l0)))
 (.seq
 (.ops [
 ⟨(some 36), none, .move (t 8)⟩,
 ⟨(some 4), none, .move (t 36)⟩,
 ⟨(some 5), none, .move (c (i64 0))⟩])
 .ret)))))))
attribute [go_sem] a53b
def a53 : AFun := ⟨37, [.tmp 4, .tmp 5], a53b, (some 3)⟩
attribute [go_sem] a53
theorem a53_ok : cFun Go.Proofs.Try.prog (hintL [(2, 1)]) (keepL [(506, ⟨[8, 9, 24, 25, 26], [8], []⟩)]) (some 3) Go.Proofs.Try.f53 = some a53 := by kernel_rfl
theorem a53_body : okBody Go.Proofs.Try.prog 53 = true := by kernel_rfl
def a54b : ACode :=
 (.seq
 (.ops [
 ⟨(some 6), none, .move (c (.bool false))⟩])
 (.seq
 (.ops [
 ⟨(some 7), none, .move (t 0)⟩,
 ⟨(some 8), none, .move (t 1)⟩,
 ⟨(some 9), none, .bin .geq (t 7) (t 8)⟩,
 ⟨(some 10), none, .move (t 9)⟩,
 ⟨(some 11), some (10, true), .move (t 0)⟩,
 ⟨(some 12), some (10, true), .move (t 2)⟩,
 ⟨(some 13), some (10, true), .bin .leq (t 11) (t 12)⟩,
 ⟨(some 14), none, .pick (t 10) (t 13) (c (.bool false))⟩,
 ⟨(some 6), none, .move (t 14)⟩])
 .ret))
attribute [go_sem] a54b
def a54 : AFun := ⟨15, [.tmp 6], a54b, (some 1)⟩
attribute [go_sem] a54
theorem a54_ok : cFun Go.Proofs.Try.prog (fun _ => 0) (fun _ => ⟨[], [], []⟩) (some 1) Go.Proofs.Try.f54 = some a54 := by kernel_rfl
theorem a54_body : okBody Go.Proofs.Try.prog 54 = true := by kernel_rfl
def a55_l0b : ACode :=
 (.seq
 (.seq
 (.ops [
 ⟨(some 6), none, .move (t 5)⟩,
 ⟨(some 7), none, .move (t 1)⟩,
 ⟨(some 8), none, .len (t 7)⟩,
 ⟨(some 9), none, .bin .lss (t 6) (t 8)⟩])
 (.cond (t 9)
 .skip
 (.exit 0)))
 (.seq
 (.block 1 (.seq
 (.dops [
 (⟨(some 12), none, .loadn 3 (t 2)⟩, 0, 0),
 (⟨(some 13), none, .move (t 1)⟩, 0, 0),
 (⟨(some 14), none, .move (t 5)⟩, 0, 0),
 (⟨(some 15), none, .indexSl 3 (t 13) (t 14)⟩, 0, 0),
 (⟨(some 16), none, .fieldAddr 0 (t 15)⟩, 0, 0),
 (⟨(some 17), none, .load1 (t 16)⟩, 0, 0),
 (⟨(some 18), none, .move (t 1)⟩, 0, 0),
 (⟨(some 19), none, .move (t 5)⟩, 0, 0),
 (⟨(some 20), none, .indexSl 3 (t 18) (t 19)⟩, 0, 0),
 (⟨(some 21), none, .fieldAddr 1 (t 20)⟩, 0, 0),
 (⟨(some 22), none, .load1 (t 21)⟩, 0, 0),
 (⟨(some 23), none, .call 92 [(t 12), (t 17), (t 22)]⟩, 0, 0),
 (⟨(some 24), none, .un .not (t 23)⟩, 1, 1),
 (⟨(some 25), none, .move (t 24)⟩, 1, 1),
 (⟨(some 26), some (25, false), .move (t 1)⟩, 1, 1),
 (⟨(some 27), some (25, false), .move (t 5)⟩, 1, 1),
 (⟨(some 28), some (25, false), .indexSl 3 (t 26) (t 27)⟩, 1, 1),
 (⟨(some 29), some (25, false), .fieldAddr 2 (t 28)⟩, 1, 1),
 (⟨(some 30), some (25, false), .load1 (t 29)⟩, 1, 1),
 (⟨(some 31), some (25, false), .call 54 [(t 30), (c (i64 1)), (c (i64 240))]⟩, 1, 1),
 (⟨(some 32), some (25, false), .un .not (t 31)⟩, 2, 2),
 (⟨(some 33), none, .pick (t 25) (c (.bool true)) (t 32)⟩, 2, 2)])
 (.cond (t 33)
 (.seq
 (.ops [
 ⟨(some 4), none, .move (c (.bool false))⟩])
 .ret)
 .skip)))
 (.ops [
 ⟨(some 10), none, .move (t 5)⟩,
 ⟨(some 11), none, .bin .add (t 10) (c (i64 1))⟩,
 ⟨(some 5), none, .move (t 11)⟩])))
attribute [go_sem] a55_l0b
def a55_l0 : ACode := a55_l0b
def a55b : ACode :=
 (.seq
 (.ops [
 ⟨(some 2), none, .boxI (t 0)⟩,
 ⟨(some 4), none, .move (c (.bool false))⟩])
 (.seq
 (.seq
 (.ops [
 ⟨(some 5), none, .move (c (i64 0))⟩])
 (.block 0 (.loop ⟨[1, 2, 5], [], [4]⟩ a55_l0)))
 (.seq
 (.ops [
 ⟨(some 4), none, .move (c (.bool true))⟩])
 .ret)))
attribute [go_sem] a55b
def a55 : AFun := ⟨34, [.tmp 4], a55b, (some 1)⟩
attribute [go_sem] a55
theorem a55_ok : cFun Go.Proofs.Try.prog (hintL [(2, 1)]) (keepL [(26, ⟨[1, 2, 5], [], [4]⟩)]) (some 1) Go.Proofs.Try.f55 = some a55 := by kernel_rfl
theorem a55_body : okBody Go.Proofs.Try.prog 55 = true := by kernel_rfl
def a56_l0b : ACode :=
 (.seq
 (.seq
 (.ops [
 ⟨(some 5), none, .move (t 4)⟩,
 ⟨(some 6), none, .move (t 0)⟩,
 ⟨(some 7), none, .len (t 6)⟩,
 ⟨(some 8), none, .bin .lss (t 5) (t 7)⟩])
 (.cond (t 8)
 .skip
 (.exit 0)))
 (.seq
 (.block 1 (.dops [
 (⟨(some 11), none, .move (t 3)⟩, 0, 0),
 (⟨(some 12), none, .move (t 0)⟩, 0, 0),
 (⟨(some 13), none, .move (t 4)⟩, 0, 0),
 (⟨(some 14), none, .indexSl 3 (t 12) (t 13)⟩, 0, 0),
 (⟨(some 15), none, .fieldAddr 0 (t 14)⟩, 0, 0),
 (⟨(some 16), none, .load1 (t 15)⟩, 0, 0),
 (⟨(some 17), none, .move (t 0)⟩, 0, 0),
 (⟨(some 18), none, .move (t 4)⟩, 0, 0),
 (⟨(some 19), none, .indexSl 3 (t 17) (t 18)⟩, 0, 0),
 (⟨(some 20), none, .fieldAddr 1 (t 19)⟩, 0, 0),
 (⟨(some 21), none, .load1 (t 20)⟩, 0, 0),
 (⟨(some 22), none, .move (t 0)⟩, 0, 0),
 (⟨(some 23), none, .move (t 4)⟩, 0, 0),
 (⟨(some 24), none, .indexSl 3 (t 22) (t 23)⟩, 0, 0),
 (⟨(some 25), none, .fieldAddr 2 (t 24)⟩, 0, 0),
 (⟨(some 26), none, .load1 (t 25)⟩, 0, 0),
 (⟨(some 27), none, .build [(i64 0), (i64 0), (i64 0)] [(0, 1, (t 16)), (1, 1, (t 21)), (2, 1, (t 26))]⟩, 0, 0),
 (⟨(some 28), none, .buildSl [(i64 0), (i64 0), (i64 0)] 1 [(0, 3, (t 27))]⟩, 0, 0),
 (⟨(some 29), none, .append 3 24 (t 11) (t 28)⟩, 0, 0),
 (⟨(some 3), none, .move (t 29)⟩, 1, 1)]))
 (.ops [
 ⟨(some 9), none, .move (t 4)⟩,
 ⟨(some 10), none, .bin .add (t 9) (c (i64 1))⟩,
 ⟨(some 4), none, .move (t 10)⟩])))
attribute [go_sem] a56_l0b
def a56_l0 : ACode := a56_l0b
def a56b : ACode :=
 (.seq
 (.ops [
 ⟨(some 2), none, .move (c .sl0)⟩])
 (.seq
 (.ops [
 ⟨(some 3), none, .move (c .sl0)⟩])
 (.seq
 (.seq
 (.ops [
 ⟨(some 4), none, .move (c (i64 0))⟩])
 (.block 0 (.loop ⟨[0, 3, 4], [3], []⟩ a56_l0)))
 (.seq
 (.ops [
 ⟨(some 30), none, .move (t 3)⟩,
 ⟨(some 2), none, .move (t 30)⟩])
 .ret))))
attribute [go_sem] a56b
def a56 : AFun := ⟨31, [.tmp 2], a56b, (some 3)⟩
attribute [go_sem] a56
theorem a56_ok : cFun Go.Proofs.Try.prog (fun _ => 0) (keepL [(58, ⟨[0, 3, 4], [3], []⟩)]) (some 3) Go.Proofs.Try.f56 = some a56 := by kernel_rfl
theorem a56_body : okBody Go.Proofs.Try.prog 56 = true := by kernel_rfl
def a57b : ACode :=
 (.seq
 (.ops [
 ⟨(some 2), none, .boxI (t 0)⟩,
 ⟨(some 3), none, .boxI (t 1)⟩,
 ⟨(some 4), none, .move (c (.bool false))⟩])
 (.seq
 (.ops [
 ⟨(some 18), none, .loadn 3 (t 2)⟩,
 ⟨(some 19), none, .call 24 [(t 18)]⟩,
 ⟨(some 20), none, .call 23 [(t 19)]⟩,
 ⟨(some 17), none, .move (t 20)⟩,
 ⟨(some 21), none, .extract (t 17) 0⟩,
 ⟨(some 22), none, .extract (t 17) 1⟩,
 ⟨(some 5), none, .move (t 21)⟩,
 ⟨(some 6), none, .move (t 22)⟩])
 (.seq
 (.ops [
 ⟨(some 24), none, .loadn 3 (t 3)⟩,
 ⟨(some 25), none, .call 24 [(t 24)]⟩,
 ⟨(some 26), none, .call 23 [(t 25)]⟩,
 ⟨(some 23), none, .move (t 26)⟩,
 ⟨(some 27), none, .extract (t 23) 0⟩,
 ⟨(some 28), none, .extract (t 23) 1⟩,
 ⟨(some 7), none, .move (t 27)⟩,
 ⟨(some 8), none, .move (t 28)⟩])
 (.seq
 (.ops [
 ⟨(some 30), none, .loadn 3 (t 2)⟩,
 ⟨(some 31), none, .call 24 [(t 30)]⟩,
 ⟨(some 32), none, .call 25 [(t 31)]⟩,
 ⟨(some 29), none, .move (t 32)⟩,
 ⟨(some 33), none, .extract (t 29) 0⟩,
 ⟨(some 34), none, .extract (t 29) 1⟩,
 ⟨(some 9), none, .move (t 33)⟩,
 ⟨(some 10), none, .move (t 34)⟩])
 (.seq
 (.ops [
 ⟨(some 36), none, .loadn 3 (t 3)⟩,
 ⟨(some 37), none, .call 24 [(t 36)]⟩,
 ⟨(some 38), none, .call 25 [(t 37)]⟩,
 ⟨(some 35), none, .move (t 38)⟩,
 ⟨(some 39), none, .extract (t 35) 0⟩,
 ⟨(some 40), none, .extract (t 35) 1⟩,
 ⟨(some 11), none, .move (t 39)⟩,
 ⟨(some 12), none, .move (t 40)⟩])
 (.seq
 (.ops [
 ⟨(some 42), none, .loadn 3 (t 2)⟩,
 ⟨(some 43), none, .call 24 [(t 42)]⟩,
 ⟨(some 44), none, .call 38 [(t 43)]⟩,
 ⟨(some 41), none, .move (t 44)⟩,
 ⟨(some 45), none, .extract (t 41) 0⟩,
 ⟨(some 46), none, .extract (t 41) 1⟩,
 ⟨(some 13), none, .alloc [(i64 0), (i64 0)]⟩,
 ⟨none, none, .store 2 (t 13) (t 45)⟩,
 ⟨(some 14), none, .move (t 46)⟩])
 (.seq
 (.ops [
 ⟨(some 48), none, .loadn 3 (t 3)⟩,
 ⟨(some 49), none, .call 24 [(t 48)]⟩,
 ⟨(some 50), none, .call 38 [(t 49)]⟩,
 ⟨(some 47), none, .move (t 50)⟩,
 ⟨(some 51), none, .extract (t 47) 0⟩,
 ⟨(some 52), none, .extract (t 47) 1⟩,
 ⟨(some 15), none, .alloc [(i64 0), (i64 0)]⟩,
 ⟨none, none, .store 2 (t 15) (t 51)⟩,
 ⟨(some 16), none, .move (t 52)⟩])
 (.seq
 (.ops [
 ⟨(some 53), none, .move (t 6)⟩,
 ⟨(some 54), none, .bin .eql (t 53) (c (i64 0))⟩,
 ⟨(some 55), none, .move (t 54)⟩,
 ⟨(some 56), some (55, true), .move (t 8)⟩,
 ⟨(some 57), some (55, true), .bin .eql (t 56) (c (i64 0))⟩,
 ⟨(some 58), none, .pick (t 55) (t 57) (c (.bool false))⟩,
 ⟨(some 59), none, .move (t 58)⟩,
 ⟨(some 60), some (59, true), .move (t 5)⟩,
 ⟨(some 61), some (59, true), .move (t 7)⟩,
 ⟨(some 62), some (59, true), .call 93 [(t 60), (t 61)]⟩,
 ⟨(some 63), none, .pick (t 59) (t 62) (c (.bool false))⟩,
 ⟨(some 64), none, .move (t 63)⟩,
 ⟨(some 65), some (64, true), .move (t 10)⟩,
 ⟨(some 66), some (64, true), .bin .eql (t 65) (c (i64 0))⟩,
 ⟨(some 67), none, .pick (t 64) (t 66) (c (.bool false))⟩,
 ⟨(some 68), none, .move (t 67)⟩,
 ⟨(some 69), some (68, true), .move (t 12)⟩,
 ⟨(some 70), some (68, true), .bin .eql (t 69) (c (i64 0))⟩,
 ⟨(some 71), none, .pick (t 68) (t 70) (c (.bool false))⟩,
 ⟨(some 72), none, .move (t 71)⟩,
 ⟨(some 73), some (72, true), .move (t 11)⟩,
 ⟨(some 74), some (72, true), .move (t 9)⟩,
 ⟨(some 75), some (72, true), .call 94 [(t 73), (t 74)]⟩,
 ⟨(some 76), none, .pick (t 72) (t 75) (c (.bool false))⟩,
 ⟨(some 77), none, .move (t 76)⟩,
 ⟨(some 78), some (77, true), .move (t 14)⟩,
 ⟨(some 79), some (77, true), .bin .eql (t 78) (c (i64 0))⟩,
 ⟨(some 80), none, .pick (t 77) (t 79) (c (.bool false))⟩,
 ⟨(some 81), none, .move (t 80)⟩,
 ⟨(some 82), some (81, true), .move (t 16)⟩,
 ⟨(some 83), some (81, true), .bin .eql (t 82) (c (i64 0))⟩,
 ⟨(some 84), none, .pick (t 81) (t 83) (c (.bool false))⟩,
 ⟨(some 85), none, .move (t 84)⟩,
 ⟨(some 86), some (85, true), .fieldAddr 0 (t 13)⟩,
 ⟨(some 87), some (85, true), .load1 (t 86)⟩,
 ⟨(some 88), some (85, true), .fieldAddr 0 (t 15)⟩,
 ⟨(some 89), some (85, true), .load1 (t 88)⟩,
 ⟨(some 90), some (85, true), .bin .geq (t 87) (t 89)⟩,
 ⟨(some 91), none, .pick (t 85) (t 90) (c (.bool false))⟩,
 ⟨(some 92), none, .move (t 91)⟩,
 ⟨(some 93), some (92, true), .fieldAddr 1 (t 13)⟩,
 ⟨(some 94), some (92, true), .load1 (t 93)⟩,
 ⟨(some 95), some (92, true), .fieldAddr 1 (t 15)⟩,
 ⟨(some 96), some (92, true), .load1 (t 95)⟩,
 ⟨(some 97), some (92, true), .bin .leq (t 94) (t 96)⟩,
 ⟨(some 98), none, .pick (t 92) (t 97) (c (.bool false))⟩,
 ⟨(some 4), none, .move (t 98)⟩])
 .ret))))))))
attribute [go_sem] a57b
def a57 : AFun := ⟨99, [.tmp 4], a57b, (some 1)⟩
attribute [go_sem] a57
theorem a57_ok : cFun Go.Proofs.Try.prog (hintL [(2, 1), (3, 1)]) (fun _ => ⟨[], [], []⟩) (some 1) Go.Proofs.Try.f57 = some a57 := by kernel_rfl
theorem a57_body : okBody Go.Proofs.Try.prog 57 = true := by kernel_rfl
def a57v3b : ACode :=
 (.seq
 (.ops [
 ⟨(some 2), none, .boxI (t 0)⟩,
 ⟨(some 3), none, .boxI (t 1)⟩,
 ⟨(some 4), none, .move (c (.bool false))⟩])
 (.seq
 (.ops [
 ⟨(some 18), none, .loadn 3 (t 2)⟩,
 ⟨(some 19), none, .call 24 [(t 18)]⟩,
 ⟨(some 20), none, .call 23 [(t 19)]⟩,
 ⟨(some 17), none, .move (t 20)⟩,
 ⟨(some 21), none, .extract (t 17) 0⟩,
 ⟨(some 22), none, .extract (t 17) 1⟩,
 ⟨(some 5), none, .move (t 21)⟩,
 ⟨(some 6), none, .move (t 22)⟩])
 (.seq
 (.ops [
 ⟨(some 24), none, .loadn 3 (t 3)⟩,
 ⟨(some 25), none, .call 24 [(t 24)]⟩,
 ⟨(some 26), none, .call 23 [(t 25)]⟩,
 ⟨(some 23), none, .move (t 26)⟩,
 ⟨(some 27), none, .extract (t 23) 0⟩,
 ⟨(some 28), none, .extract (t 23) 1⟩,
 ⟨(some 7), none, .move (t 27)⟩,
 ⟨(some 8), none, .move (t 28)⟩])
 (.seq
 (.ops [
 ⟨(some 30), none, .loadn 3 (t 2)⟩,
 ⟨(some 31), none, .call 24 [(t 30)]⟩,
 ⟨(some 32), none, .call 25 [(t 31)]⟩,
 ⟨(some 29), none, .move (t 32)⟩,
 ⟨(some 33), none, .extract (t 29) 0⟩,
 ⟨(some 34), none, .extract (t 29) 1⟩,
 ⟨(some 9), none, .move (t 33)⟩,
 ⟨(some 10), none, .move (t 34)⟩])
 (.seq
 (.ops [
 ⟨(some 36), none, .loadn 3 (t 3)⟩,
 ⟨(some 37), none, .call 24 [(t 36)]⟩,
 ⟨(some 38), none, .call 25 [(t 37)]⟩,
 ⟨(some 35), none, .move (t 38)⟩,
 ⟨(some 39), none, .extract (t 35) 0⟩,
 ⟨(some 40), none, .extract (t 35) 1⟩,
 ⟨(some 11), none, .move (t 39)⟩,
 ⟨(some 12), none, .move (t 40)⟩])
 (.seq
 (.ops [
 ⟨(some 42), none, .loadn 3 (t 2)⟩,
 ⟨(some 43), none, .call 24 [(t 42)]⟩,
 ⟨(some 44), none, .call 38 [(t 43)]⟩,
 ⟨(some 41), none, .move (t 44)⟩,
 ⟨(some 45), none, .extract (t 41) 0⟩,
 ⟨(some 46), none, .extract (t 41) 1⟩,
 ⟨(some 13), none, .alloc [(i64 0), (i64 0)]⟩,
 ⟨none, none, .store 2 (t 13) (t 45)⟩,
 ⟨(some 14), none, .move (t 46)⟩])
 (.seq
 (.ops [
 ⟨(some 48), none, .loadn 3 (t 3)⟩,
 ⟨(some 49), none, .call 24 [(t 48)]⟩,
 ⟨(some 50), none, .call 38 [(t 49)]⟩,
 ⟨(some 47), none, .move (t 50)⟩,
 ⟨(some 51), none, .extract (t 47) 0⟩,
 ⟨(some 52), none, .extract (t 47) 1⟩,
 ⟨(some 15), none, .alloc [(i64 0), (i64 0)]⟩,
 ⟨none, none, .store 2 (t 15) (t 51)⟩,
 ⟨(some 16), none, .move (t 52)⟩])
 (.seq
 (.ops [
 ⟨(some 53), none, .move (t 6)⟩,
 ⟨(some 54), none, .bin .eql (t 53) (c (i64 0))⟩,
 ⟨(some 55), none, .move (t 54)⟩,
 ⟨(some 56), some (55, true), .move (t 8)⟩,
 ⟨(some 57), some (55, true), .bin .eql (t 56) (c (i64 0))⟩,
 ⟨(some 58), none, .pick (t 55) (t 57) (c (.bool false))⟩,
 ⟨(some 59), none, .move (t 58)⟩,
 ⟨(some 60), some (59, true), .move (t 5)⟩,
 ⟨(some 61), some (59, true), .move (t 7)⟩,
 ⟨(some 62), some (59, true), .call 93 [(t 60), (t 61)]⟩,
 ⟨(some 63), none, .pick (t 59) (t 62) (c (.bool false))⟩,
 ⟨(some 64), none, .move (t 63)⟩,
 ⟨(some 65), some (64, true), .move (t 10)⟩,
 ⟨(some 66), some (64, true), .bin .eql (t 65) (c (i64 0))⟩,
 ⟨(some 67), none, .pick (t 64) (t 66) (c (.bool false))⟩,
 ⟨(some 68), none, .move (t 67)⟩,
 ⟨(some 69), some (68, true), .move (t 12)⟩,
 ⟨(some 70), some (68, true), .bin .eql (t 69) (c (i64 0))⟩,
 ⟨(some 71), none, .pick (t 68) (t 70) (c (.bool false))⟩,
 ⟨(some 72), none, .move (t 71)⟩,
 ⟨(some 73), some (72, true), .move (t 11)⟩,
 ⟨(some 74), some (72, true), .move (t 9)⟩,
 ⟨(some 75), some (72, true), .call 94 [(t 73), (t 74)]⟩,
 ⟨(some 76), none, .pick (t 72) (t 75) (c (.bool false))⟩,
 ⟨(some 77), none, .move (t 76)⟩,
 ⟨(some 78), some (77, true), .move (t 14)⟩,
 ⟨(some 79), some (77, true), .bin .eql (t 78) (c (i64 0))⟩,
 ⟨(some 80), none, .pick (t 77) (t 79) (c (.bool false))⟩,
 ⟨(some 81), none, .move (t 80)⟩,
 ⟨(some 82), some (81, true), .move (t 16)⟩,
 ⟨(some 83), some (81, true), .bin .eql (t 82) (c (i64 0))⟩,
 ⟨(some 84), none, .pick (t 81) (t 83) (c (.bool false))⟩,
 ⟨(some 85), none, .move (t 84)⟩,
 ⟨(some 86), some (85, true), .fieldAddr 0 (t 13)⟩,
 ⟨(some 87), some (85, true), .load1 (t 86)⟩,
 ⟨(some 88), some (85, true), .fieldAddr 0 (t 15)⟩,
 ⟨(some 89), some (85, true), .load1 (t 88)⟩,
 ⟨(some 90), some (85, true), .bin .geq (t 87) (t 89)⟩,
 ⟨(some 91), none, .pick (t 85) (t 90) (c (.bool false))⟩,
 ⟨(some 92), none, .move (t 91)⟩,
 ⟨(some 93), some (92, true), .fieldAddr 1 (t 13)⟩,
 ⟨(some 94), some (92, true), .load1 (t 93)⟩,
 ⟨(some 95), some (92, true), .fieldAddr 1 (t 15)⟩,
 ⟨(some 96), some (92, true), .load1 (t 95)⟩,
 ⟨(some 97), some (92, true), .bin .leq (t 94) (t 96)⟩,
 ⟨(some 98), none, .pick (t 92) (t 97) (c (.bool false))⟩,
 ⟨(some 4), none, .move (t 98)⟩])
 .ret))))))))
attribute [go_sem] a57v3b
def a57v3 : AFun := ⟨99, [.tmp 4], a57v3b, (some 1000000)⟩
attribute [go_sem] a57v3
theorem a57v3_ok : cFun Go.Proofs.Try.prog (hintL [(9999, 0), (2, 1), (3, 1)]) (fun _ => ⟨[], [], []⟩) (some 1000000) Go.Proofs.Try.f57 = some a57v3 := by kernel_rfl
theorem a57v3_body : okBody Go.Proofs.Try.prog 57 = true := by kernel_rfl
def a58_l0b : ACode :=
 (.seq
 (.seq
 (.ops [
 ⟨(some 9), none, .move (t 6)⟩,
 ⟨(some 10), none, .fieldAddr 2 (t 2)⟩,
 ⟨(some 11), none, .load1 (t 10)⟩,
 ⟨(some 12), none, .len (t 11)⟩,
 ⟨(some 13), none, .bin .lss (t 9) (t 12)⟩])
 (.cond (t 13)
 .skip
 (.exit 0)))
 (.seq
 (.block 1 (.seq
 (.ops [
 ⟨(some 16), none, .move (t 1)⟩,
 ⟨(some 17), none, .move (t 6)⟩,
 ⟨(some 18), none, .conv .u64 (t 17)⟩,
 ⟨(some 19), none, .bin .shr (t 16) (t 18)⟩,
 ⟨(some 20), none, .bin .rem (t 19) (c (i64 2))⟩,
 ⟨(some 21), none, .bin .eql (t 20) (c (i64 1))⟩])
 (.cond (t 21)
 (.dops [
 (⟨(some 22), none, .fieldAddr 2 (t 5)⟩, 0, 0),
 (⟨(some 23), none, .load1 (t 22)⟩, 0, 0),
 (⟨(some 24), none, .fieldAddr 2 (t 2)⟩, 0, 0),
 (⟨(some 25), none, .load1 (t 24)⟩, 0, 0),
 (⟨(some 26), none, .move (t 6)⟩, 0, 0),
 (⟨(some 27), none, .indexSl 3 (t 25) (t 26)⟩, 0, 0),
 (⟨(some 28), none, .loadn 3 (t 27)⟩, 0, 0),
 (⟨(some 29), none, .buildSl [(i64 0), (i64 0), (i64 0)] 1 [(0, 3, (t 28))]⟩, 0, 0),
 (⟨(some 30), none, .append 3 24 (t 23) (t 29)⟩, 0, 0),
 (⟨(some 31), none, .fieldAddr 2 (t 5)⟩, 1, 1),
 (⟨none, none, .store 1 (t 31) (t 30)⟩, 1, 1)])
 .skip)))
 (.ops [
 ⟨(some 14), none, .move (t 6)⟩,
 ⟨(some 15), none, .bin .add (t 14) (c (i64 1))⟩,
 ⟨(some 6), none, .move (t 15)⟩])))
attribute [go_sem] a58_l0b
def a58_l0 : ACode := a58_l0b
def a58b : ACode :=
 (.seq
 (.ops [
 ⟨(some 2), none, .boxI (t 0)⟩,
 ⟨(some 4), none, .alloc [(i64 0), .sl0, .sl0]⟩])
 (.seq
 (.ops [
 ⟨(some 7), none, .loadn 3 (t 2)⟩,
 ⟨(some 5), none, .alloc [(i64 0), .sl0, .sl0]⟩,
 ⟨none, none, .store 3 (t 5) (t 7)⟩])
 (.seq
 (.ops [
 ⟨(some 8), none, .fieldAddr 2 (t 5)⟩,
 ⟨none, none, .store 1 (t 8) (c .sl0)⟩])
 (.seq
 (.seq
 (.ops [
 ⟨(some 6), none, .move (c (i64 0))⟩])
 (.block 0 (.loop ⟨[1, 2, 4, 5, 6], [4, 5], []⟩ a58_l0)))
 (.seq
 (.ops [
 ⟨(some 32), none, .loadn 3 (t 5)⟩,
 ⟨none, none, .store 3 (t 4) (t 32)⟩])
 .ret)))))
attribute [go_sem] a58b
def a58 : AFun := ⟨33, [.cell 4 (some 3)], a58b, (some 1)⟩
attribute [go_sem] a58
theorem a58_ok : cFun Go.Proofs.Try.prog (hintL [(2, 1)]) (keepL [(122, ⟨[1, 2, 4, 5, 6], [4, 5], []⟩)]) (some 1) Go.Proofs.Try.f58 = some a58 := by kernel_rfl
theorem a58_body : okBody Go.Proofs.Try.prog 58 = true := by kernel_rfl
def a59b : ACode :=
 (.seq
 (.ops [
 ⟨(some 1), none, .boxI (t 0)⟩,
 ⟨(some 2), none, .move (c (i64 0))⟩])
 (.seq
 (.ops [
 ⟨(some 3), none, .fieldAddr 2 (t 1)⟩,
 ⟨(some 4), none, .load1 (t 3)⟩,
 ⟨(some 5), none, .len (t 4)⟩,
 ⟨(some 6), none, .conv .u64 (t 5)⟩,
 ⟨(some 7), none, .bin .shl (c (i64 1)) (t 6)⟩,
 ⟨(some 8), none, .bin .sub (t 7) (c (i64 1))⟩,
 ⟨(some 2), none, .move (t 8)⟩])
 .ret))
attribute [go_sem] a59b
def a59 : AFun := ⟨9, [.tmp 2], a59b, (some 1)⟩
attribute [go_sem] a59
theorem a59_ok : cFun Go.Proofs.Try.prog (hintL [(1, 1)]) (fun _ => ⟨[], [], []⟩) (some 1) Go.Proofs.Try.f59 = some a59 := by kernel_rfl
theorem a59_body : okBody Go.Proofs.Try.prog 59 = true := by kernel_rfl
def a60b : ACode :=
 (.seq
 (.ops [
 ⟨(some 4), none, .move (c (.bool false))⟩])
 (.seq
 (.ops [
 ⟨(some 5), none, .move (t 0)⟩,
 ⟨(some 6), none, .len (t 5)⟩,
 ⟨(some 7), none, .move (t 1)⟩,
 ⟨(some 8), none, .len (t 7)⟩,
 ⟨(some 9), none, .bin .lss (t 6) (t 8)⟩,
 ⟨(some 10), none, .move (t 9)⟩,
 ⟨(some 11), some (10, false), .move (t 0)⟩,
 ⟨(some 12), some (10, false), .len (t 11)⟩,
 ⟨(some 13), some (10, false), .move (t 1)⟩,
 ⟨(some 14), some (10, false), .len (t 13)⟩,
 ⟨(some 15), some (10, false), .bin .eql (t 12) (t 14)⟩,
 ⟨(some 16), some (10, false), .move (t 15)⟩,
 ⟨(some 17), some (16, true), .move (t 0)⟩,
 ⟨(some 18), some (16, true), .move (t 1)⟩,
 ⟨(some 19), some (16, true), .call 95 [(t 17), (t 18)]⟩,
 ⟨(some 20), some (10, false), .pick (t 16) (t 19) (c (.bool false))⟩,
 ⟨(some 21), none, .pick (t 10) (c (.bool true)) (t 20)⟩,
 ⟨(some 4), none, .move (t 21)⟩])
 .ret))
attribute [go_sem] a60b
def a60 : AFun := ⟨22, [.tmp 4], a60b, (some 1)⟩
attribute [go_sem] a60
theorem a60_ok : cFun Go.Proofs.Try.prog (fun _ => 0) (fun _ => ⟨[], [], []⟩) (some 1) Go.Proofs.Try.f60 = some a60 := by kernel_rfl
theorem a60_body : okBody Go.Proofs.Try.prog 60 = true := by kernel_rfl
def a61_l0b : ACode :=
 (.seq
 (.seq
 (.ops [
 ⟨(some 5), none, .move (t 0)⟩,
 ⟨(some 6), none, .move (t 4)⟩,
 ⟨(some 7), none, .conv .u64 (t 6)⟩,
 ⟨(some 8), none, .bin .shr (t 5) (t 7)⟩,
 ⟨(some 9), none, .bin .gtr (t 8) (c (i64 0))⟩])
 (.cond (t 9)
 .skip
 (.exit 0)))
 (.seq
 (.block 1 (.seq
 (.ops [
 ⟨(some 12), none, .move (t 0)⟩,
 ⟨(some 13), none, .move (t 4)⟩,
 ⟨(some 14), none, .conv .u64 (t 13)⟩,
 ⟨(some 15), none, .bin .shr (t 12) (t 14)⟩,
 ⟨(some 16), none, .bin .rem (t 15) (c (i64 2))⟩,
 ⟨(some 17), none, .bin .eql (t 16) (c (i64 1))⟩])
 (.cond (t 17)
 (.ops [
 ⟨(some 18), none, .move (t 3)⟩,
 ⟨(some 19), none, .move (t 4)⟩,
 ⟨(some 20), none, .buildSl [(i64 0)] 1 [(0, 1, (t 19))]⟩,
 ⟨(some 21), none, .append 1 8 (t 18) (t 20)⟩,
 ⟨(some 3), none, .move (t 21)⟩])
 .skip)))
 (.ops [
 ⟨(some 10), none, .move (t 4)⟩,
 ⟨(some 11), none, .bin .add (t 10) (c (i64 1))⟩,
 ⟨(some 4), none, .move (t 11)⟩])))
attribute [go_sem] a61_l0b
def a61_l0 : ACode := a61_l0b
@[go_sem] theorem a61_l0_ev (H : Han) (fr : List AVal) (s : St) : evalCode H a61_l0 fr s = evalCode H a61_l0b fr s := (rfl)
def a61b : ACode :=
 (.seq
 (.ops [
 ⟨(some 2), none, .move (c .sl0)⟩])
 (.seq
 (.ops [
 ⟨(some 3), none, .move (c .sl0)⟩])
 (.seq
 (.seq
 (.ops [
 ⟨(some 4), none, .move (c (i64 0))⟩])
 (.block 0 (.loop ⟨[0, 3, 4], [3], []⟩ a61_l0)))
 (.seq
 (.ops [
 ⟨(some 22), none, .move (t 3)⟩,
 ⟨(some 2), none, .move (t 22)⟩])
 .ret))))
attribute [go_sem] a61b
def a61 : AFun := ⟨23, [.tmp 2], a61b, (some 1)⟩
attribute [go_sem] a61
theorem a61_ok : cFun Go.Proofs.Try.prog (fun _ => 0) (keepL [(58, ⟨[0, 3, 4], [3], []⟩)]) (some 1) Go.Proofs.Try.f61 = some a61 := by kernel_rfl
theorem a61_body : okBody Go.Proofs.Try.prog 61 = true := by kernel_rfl
def a62b : ACode :=
 (.seq
 (.ops [
 ⟨(some 2), none, .boxI (t 0)⟩,
 ⟨(some 4), none, .move (c (.bool false))⟩])
 (.seq
 (.ops [
 ⟨(some 8), none, .loadn 3 (t 2)⟩,
 ⟨(some 9), none, .move (t 1)⟩,
 ⟨(some 10), none, .call 79 [(t 8), (t 9)]⟩,
 ⟨(some 7), none, .move (t 10)⟩,
 ⟨(some 11), none, .extract (t 7) 0⟩,
 ⟨(some 12), none, .extract (t 7) 1⟩,
 ⟨(some 5), none, .alloc (List.replicate 6 (i64 0))⟩,
 ⟨none, none, .store 6 (t 5) (t 11)⟩,
 ⟨(some 6), none, .move (t 12)⟩])
 (.seq
 (.ops [
 ⟨(some 13), none, .move (t 6)⟩,
 ⟨(some 14), none, .bin .eql (t 13) (c (i64 0))⟩,
 ⟨(some 15), none, .move (t 14)⟩,
 ⟨(some 16), some (15, true), .loadn 3 (t 2)⟩,
 ⟨(some 17), some (15, true), .loadn 6 (t 5)⟩,
 ⟨(some 18), some (15, true), .call 96 [(t 16), (t 17), (c .sl0)]⟩,
 ⟨(some 19), none, .pick (t 15) (t 18) (c (.bool false))⟩,
 ⟨(some 4), none, .move (t 19)⟩])
 .ret)))
attribute [go_sem] a62b
def a62 : AFun := ⟨20, [.tmp 4], a62b, (some 1)⟩
attribute [go_sem] a62
theorem a62_ok : cFun Go.Proofs.Try.prog (hintL [(2, 1)]) (fun _ => ⟨[], [], []⟩) (some 1) Go.Proofs.Try.f62 = some a62 := by kernel_rfl
theorem a62_body : okBody Go.Proofs.Try.prog 62 = true := by kernel_rfl
def a63_l0b : ACode :=
 (.seq
 (.ops [
 ⟨(some 50), none, .bin .lss (t 49) (t 48)⟩])
 (.seq
 (.cond (t 50)
 .skip
 (.exit 1))
 (.seq
 (.block 2 (.seq
 (.ops [
 ⟨(some 51), none, .indexSl 4 (t 47) (t 49)⟩,
 ⟨(some 52), none, .loadn 4 (t 51)⟩,
 ⟨(some 7), none, .alloc (List.replicate 4 (i64 0))⟩,
 ⟨none, none, .store 4 (t 7) (t 52)⟩])
 (.ops [
 ⟨(some 53), none, .move (t 5)⟩,
 ⟨(some 54), none, .fieldAddr 2 (t 7)⟩,
 ⟨(some 55), none, .loadn 2 (t 54)⟩,
 ⟨(some 56), none, .call 102 [(t 55)]⟩,
 ⟨(some 57), none, .bin .mul (t 53) (t 56)⟩,
 ⟨(some 58), none, .buildSl [(i64 0), (i64 0)] 2 [(0, 1, (t 57)), (1, 1, (c (i64 2001)))]⟩,
 ⟨(some 59), none, .call 101 [(t 58)]⟩,
 ⟨(some 5), none, .move (t 59)⟩])))
 (.ops [
 ⟨(some 60), none, .bin .add (t 49) (c (i64 1))⟩,
 ⟨(some 49), none, .move (t 60)⟩]))))
attribute [go_sem] a63_l0b
def a63_l0 : ACode := a63_l0b
@[go_sem] theorem a63_l0_ev (H : Han) (fr : List AVal) (s : St) : evalCode H a63_l0 fr s = evalCode H a63_l0b fr s := (rfl)
def a63b : ACode :=
 (.seq
 (.ops [
 ⟨(some 1), none, .boxI (t 0)⟩,
 ⟨(some 2), none, .move (c (i64 0))⟩])
 (.seq
 (.dops [
 (⟨(some 8), none, .loadn 3 (t 1)⟩, 0, 0),
 (⟨(some 9), none, .mkFn (.func 97) [(t 8)] []⟩, 0, 0),
 (⟨(some 10), none, .loadn 3 (t 1)⟩, 0, 0),
 (⟨(some 11), none, .mkFn (.func 98) [(t 10)] []⟩, 0, 0),
 (⟨(some 3), none, .move (t 9)⟩, 0, 0),
 (⟨(some 4), none, .move (t 11)⟩, 0, 0)])
 (.seq
 (.block 0 (.seq
 (.ops [
 ⟨(some 13), none, .fieldAddr 0 (t 1)⟩,
 ⟨(some 14), none, .load1 (t 13)⟩,
 ⟨(some 15), none, .bin .gtr (t 14) (c (i64 6))⟩,
 ⟨(some 16), none, .move (t 15)⟩,
 ⟨(some 17), some (16, false), .fieldAddr 1 (t 1)⟩,
 ⟨(some 18), some (16, false), .load1 (t 17)⟩,
 ⟨(some 19), some (16, false), .len (t 18)⟩,
 ⟨(some 20), some (16, false), .bin .gtr (t 19) (c (i64 6))⟩,
 ⟨(some 21), none, .pick (t 16) (c (.bool true)) (t 20)⟩,
 ⟨(some 22), none, .move (t 21)⟩,
 ⟨(some 23), some (22, false), .fieldAddr 2 (t 1)⟩,
 ⟨(some 24), some (22, false), .load1 (t 23)⟩,
 ⟨(some 25), some (22, false), .len (t 24)⟩,
 ⟨(some 26), some (22, false), .bin .gtr (t 25) (c (i64 5))⟩,
 ⟨(some 27), none, .pick (t 22) (c (.bool true)) (t 26)⟩,
 ⟨(some 12), none, .move (t 27)⟩])
 (.cond (t 12)
 (.seq
 (.ops [
 ⟨(some 2), none, .move (c (i64 3))⟩])
 .ret)
 (.seq
 (.ops [
 ⟨(some 29), none, .fieldAddr 0 (t 1)⟩,
 ⟨(some 30), none, .load1 (t 29)⟩,
 ⟨(some 31), none, .bin .lss (t 30) (c (i64 0))⟩,
 ⟨(some 32), none, .move (t 31)⟩,
 ⟨(some 33), some (32, false), .fieldAddr 1 (t 1)⟩,
 ⟨(some 34), some (32, false), .load1 (t 33)⟩,
 ⟨(some 35), some (32, false), .move (t 3)⟩,
 ⟨(some 36), some (32, false), .call 99 [(t 34), (t 35)]⟩,
 ⟨(some 37), some (32, false), .un .not (t 36)⟩,
 ⟨(some 38), none, .pick (t 32) (c (.bool true)) (t 37)⟩,
 ⟨(some 39), none, .move (t 38)⟩,
 ⟨(some 40), some (39, false), .fieldAddr 2 (t 1)⟩,
 ⟨(some 41), some (39, false), .load1 (t 40)⟩,
 ⟨(some 42), some (39, false), .move (t 4)⟩,
 ⟨(some 43), some (39, false), .call 100 [(t 41), (t 42)]⟩,
 ⟨(some 44), some (39, false), .un .not (t 43)⟩,
 ⟨(some 45), none, .pick (t 39) (c (.bool true)) (t 44)⟩,
 ⟨(some 28), none, .move (t 45)⟩])
 (.cond (t 28)
 (.seq
 (.ops [
 ⟨(some 2), none, .move (c (i64 1))⟩])
 .ret)
 .skip)))))
 (.seq
 (.ops [
 ⟨(some 5), none, .move (c (i64 1))⟩])
 (.seq
 (.seq
 (.ops [
 ⟨(some 46), none, .fieldAddr 1 (t 1)⟩,
 ⟨(some 47), none, .load1 (t 46)⟩,
 ⟨(some 48), none, .len (t 47)⟩,
 ⟨(some 49), none, .move (c (i64 0))⟩])
 (.block 1 (.loop ⟨[5, 47, 48, 49], [5], []⟩ a63_l0)))
 (.seq
 (.seq
 (.ops [
 ⟨(some 61), none, .move (t 5)⟩,
 ⟨(some 62), none, .bin .gtr (t 61) (c (i64 2000))⟩])
 (.cond (t 62)
 (.seq
 (.ops [
 ⟨(some 2), none, .move (c (i64 3))⟩])
 .ret)
 .skip))
 (.seq
 (.ops [
 ⟨(some 2), none, .move (c (i64 0))⟩])
 .ret)))))))
attribute [go_sem] a63b
def a63 : AFun := ⟨63, [.tmp 2], a63b, (some 1)⟩
attribute [go_sem] a63
theorem a63_ok : cFun Go.Proofs.Try.prog (hintL [(1, 1)]) (keepL [(250, ⟨[5, 47, 48, 49], [5], []⟩)]) (some 1) Go.Proofs.Try.f63 = some a63 := by kernel_rfl
theorem a63_body : okBody Go.Proofs.Try.prog 63 = true := by kernel_rfl
def a63v3_l0b : ACode :=
 (.seq
 (.ops [
 ⟨(some 50), none, .bin .lss (t 49) (t 48)⟩])
 (.seq
 (.cond (t 50)
 .skip
 (.exit 1))
 (.seq
 (.block 2 (.seq
 (.ops [
 ⟨(some 51), none, .indexSl 4 (t 47) (t 49)⟩,
 ⟨(some 52), none, .loadn 4 (t 51)⟩,
 ⟨(some 7), none, .alloc (List.replicate 4 (i64 0))⟩,
 ⟨none, none, .store 4 (t 7) (t 52)⟩])
 (.ops [
 ⟨(some 53), none, .move (t 5)⟩,
 ⟨(some 54), none, .fieldAddr 2 (t 7)⟩,
 ⟨(some 55), none, .loadn 2 (t 54)⟩,
 ⟨(some 56), none, .call 102 [(t 55)]⟩,
 ⟨(some 57), none, .bin .mul (t 53) (t 56)⟩,
 ⟨(some 58), none, .buildSl [(i64 0), (i64 0)] 2 [(0, 1, (t 57)), (1, 1, (c (i64 2001)))]⟩,
 ⟨(some 59), none, .call 101 [(t 58)]⟩,
 ⟨(some 5), none, .move (t 59)⟩])))
 (.ops [
 ⟨(some 60), none, .bin .add (t 49) (c (i64 1))⟩,
 ⟨(some 49), none, .move (t 60)⟩]))))
attribute [go_sem] a63v3_l0b
def a63v3_l0 : ACode := a63v3_l0b
def a63v3b : ACode :=
 (.seq
 (.ops [
 ⟨(some 1), none, .boxI (t 0)⟩,
 ⟨(some 2), none, .move (c (i64 0))⟩])
 (.seq
 (.dops [
 (⟨(some 8), none, .loadn 3 (t 1)⟩, 0, 0),
 (⟨(some 9), none, .mkFn (.func 97) [(t 8)] []⟩, 0, 0),
 (⟨(some 10), none, .loadn 3 (t 1)⟩, 0, 0),
 (⟨(some 11), none, .mkFn (.func 98) [(t 10)] []⟩, 0, 0),
 (⟨(some 3), none, .move (t 9)⟩, 0, 0),
 (⟨(some 4), none, .move (t 11)⟩, 0, 0)])
 (.seq
 (.block 0 (.seq
 (.ops [
 ⟨(some 13), none, .fieldAddr 0 (t 1)⟩,
 ⟨(some 14), none, .load1 (t 13)⟩,
 ⟨(some 15), none, .bin .gtr (t 14) (c (i64 6))⟩,
 ⟨(some 16), none, .move (t 15)⟩,
 ⟨(some 17), some (16, false), .fieldAddr 1 (t 1)⟩,
 ⟨(some 18), some (16, false), .load1 (t 17)⟩,
 ⟨(some 19), some (16, false), .len (t 18)⟩,
 ⟨(some 20), some (16, false), .bin .gtr (t 19) (c (i64 6))⟩,
 ⟨(some 21), none, .pick (t 16) (c (.bool true)) (t 20)⟩,
 ⟨(some 22), none, .move (t 21)⟩,
 ⟨(some 23), some (22, false), .fieldAddr 2 (t 1)⟩,
 ⟨(some 24), some (22, false), .load1 (t 23)⟩,
 ⟨(some 25), some (22, false), .len (t 24)⟩,
 ⟨(some 26), some (22, false), .bin .gtr (t 25) (c (i64 5))⟩,
 ⟨(some 27), none, .pick (t 22) (c (.bool true)) (t 26)⟩,
 ⟨(some 12), none, .move (t 27)⟩])
 (.cond (t 12)
 (.seq
 (.ops [
 ⟨(some 2), none, .move (c (i64 3))⟩])
 .ret)
 (.seq
 (.ops [
 ⟨(some 29), none, .fieldAddr 0 (t 1)⟩,
 ⟨(some 30), none, .load1 (t 29)⟩,
 ⟨(some 31), none, .bin .lss (t 30) (c (i64 0))⟩,
 ⟨(some 32), none, .move (t 31)⟩,
 ⟨(some 33), some (32, false), .fieldAddr 1 (t 1)⟩,
 ⟨(some 34), some (32, false), .load1 (t 33)⟩,
 ⟨(some 35), some (32, false), .move (t 3)⟩,
 ⟨(some 36), some (32, false), .call 99 [(t 34), (t 35)]⟩,
 ⟨(some 37), some (32, false), .un .not (t 36)⟩,
 ⟨(some 38), none, .pick (t 32) (c (.bool true)) (t 37)⟩,
 ⟨(some 39), none, .move (t 38)⟩,
 ⟨(some 40), some (39, false), .fieldAddr 2 (t 1)⟩,
 ⟨(some 41), some (39, false), .load1 (t 40)⟩,
 ⟨(some 42), some (39, false), .move (t 4)⟩,
 ⟨(some 43), some (39, false), .call 100 [(t 41), (t 42)]⟩,
 ⟨(some 44), some (39, false), .un .not (t 43)⟩,
 ⟨(some 45), none, .pick (t 39) (c (.bool true)) (t 44)⟩,
 ⟨(some 28), none, .move (t 45)⟩])
 (.cond (t 28)
 (.seq
 (.ops [
 ⟨(some 2), none, .move (c (i64 1))⟩])
 .ret)
 .skip)))))
 (.seq
 (.ops [
 ⟨(some 5), none, .move (c (i64 1))⟩])
 (.seq
 (.seq
 (.ops [
 ⟨(some 46), none, .fieldAddr 1 (t 1)⟩,
 ⟨(some 47), none, .load1 (t 46)⟩,
 ⟨(some 48), none, .len (t 47)⟩,
 ⟨(some 49), none, .move (c (i64 0))⟩])
 (.block 1 (.loop ⟨[5, 47, 48, 49], [5], []⟩ a63v3_l0)))
 (.seq
 (.seq
 (.ops [
 ⟨(some 61), none, .move (t 5)⟩,
 ⟨(some 62), none, .bin .gtr (t 61) (c (i64 2000))⟩])
 (.cond (t 62)
 (.seq
 (.ops [
 ⟨(some 2), none, .move (c (i64 3))⟩])
 .ret)
 .skip))
 (.seq
 (.ops [
 ⟨(some 2), none, .move (c (i64 0))⟩])
 .ret)))))))
attribute [go_sem] a63v3b
def a63v3 : AFun := ⟨63, [.tmp 2], a63v3b, (some 1000000)⟩
attribute [go_sem] a63v3
theorem a63v3_ok : cFun Go.Proofs.Try.prog (hintL [(9999, 0), (1, 1)]) (keepL [(250, ⟨[5, 47, 48, 49], [5], []⟩)]) (some 1000000) Go.Proofs.Try.f63 = some a63v3 := by kernel_rfl
theorem a63v3_body : okBody Go.Proofs.Try.prog 63 = true := by kernel_rfl
def a64b : ACode :=
 (.seq
 (.ops [
 ⟨(some 2), none, .boxI (t 0)⟩,
 ⟨(some 4), none, .move (c (.bool false))⟩])
 (.seq
 (.dops [
 (⟨(some 5), none, .loadn 3 (t 2)⟩, 0, 0),
 (⟨(some 6), none, .move (t 1)⟩, 0, 0),
 (⟨(some 7), none, .call 33 [(t 5), (t 6)]⟩, 0, 0),
 (⟨(some 8), none, .move (t 7)⟩, 1, 1),
 (⟨(some 9), some (8, true), .loadn 3 (t 2)⟩, 1, 1),
 (⟨(some 10), some (8, true), .move (t 1)⟩, 1, 1),
 (⟨(some 11), some (8, true), .call 88 [(t 9), (t 10)]⟩, 1, 1),
 (⟨(some 12), some (8, true), .loadn 3 (t 2)⟩, 1, 2),
 (⟨(some 13), some (8, true), .call 59 [(t 12)]⟩, 2, 2),
 (⟨(some 14), some (8, true), .bin .eql (t 11) (t 13)⟩, 3, 3),
 (⟨(some 15), none, .pick (t 8) (t 14) (c (.bool false))⟩, 3, 3),
 (⟨(some 4), none, .move (t 15)⟩, 3, 3)])
 .ret))
attribute [go_sem] a64b
def a64 : AFun := ⟨16, [.tmp 4], a64b, (some 1)⟩
attribute [go_sem] a64
theorem a64_ok : cFun Go.Proofs.Try.prog (hintL [(2, 1)]) (fun _ => ⟨[], [], []⟩) (some 1) Go.Proofs.Try.f64 = some a64 := by kernel_rfl
theorem a64_body : okBody Go.Proofs.Try.prog 64 = true := by kernel_rfl
def a65_l0b : ACode :=
 (.seq
 (.seq
 (.ops [
 ⟨(some 23), none, .move (t 10)⟩,
 ⟨(some 24), none, .move (t 2)⟩,
 ⟨(some 25), none, .call 103 [(t 24), (c (i64 0))]⟩,
 ⟨(some 26), none, .bin .rem (t 25) (c (i64 6))⟩,
 ⟨(some 27), none, .bin .lss (t 23) (t 26)⟩,
 ⟨(some 28), none, .move (t 27)⟩,
 ⟨(some 29), some (28, true), .fieldAddr 0 (t 3)⟩,
 ⟨(some 30), some (28, true), .load1 (t 29)⟩,
 ⟨(some 31), some (28, true), .bin .gtr (t 30) (c (i64 0))⟩,
 ⟨(some 32), none, .pick (t 28) (t 31) (c (.bool false))⟩])
 (.cond (t 32)
 .skip
 (.exit 0)))
 (.seq
 (.block 1 (.seq
 (.ops [
 ⟨(some 35), none, .move (t 2)⟩,
 ⟨(some 36), none, .move (t 10)⟩,
 ⟨(some 37), none, .bin .add (t 36) (c (i64 1))⟩,
 ⟨(some 38), none, .call 103 [(t 35), (t 37)]⟩,
 ⟨(some 11), none, .move (t 38)⟩])
 (.seq
 (.ops [
 ⟨(some 39), none, .move (t 11)⟩,
 ⟨(some 40), none, .fieldAddr 0 (t 3)⟩,
 ⟨(some 41), none, .load1 (t 40)⟩,
 ⟨(some 42), none, .bin .rem (t 39) (t 41)⟩,
 ⟨(some 43), none, .build [(i64 0), (i64 0), (i64 0)] [(0, 1, (t 42))]⟩,
 ⟨(some 12), none, .alloc [(i64 0), (i64 0), (i64 0)]⟩,
 ⟨none, none, .store 3 (t 12) (t 43)⟩])
 (.seq
 (.ops [
 ⟨(some 44), none, .loadn 3 (t 3)⟩,
 ⟨(some 45), none, .move (t 8)⟩,
 ⟨(some 46), none, .fieldAddr 0 (t 12)⟩,
 ⟨(some 47), none, .load1 (t 46)⟩,
 ⟨(some 48), none, .call 48 [(t 44), (t 45), (t 47)]⟩,
 ⟨(some 13), none, .move (t 48)⟩])
 (.seq
 (.ops [
 ⟨(some 49), none, .move (t 13)⟩,
 ⟨(some 50), none, .move (t 11)⟩,
 ⟨(some 51), none, .bin .quo (t 50) (c (i64 8))⟩,
 ⟨(some 52), none, .bin .rem (t 51) (c (i64 3))⟩,
 ⟨(some 53), none, .bin .sub (t 49) (t 52)⟩,
 ⟨(some 54), none, .maxmin true [(c (i64 (-240))), (t 53)]⟩,
 ⟨(some 55), none, .move (t 13)⟩,
 ⟨(some 56), none, .move (t 11)⟩,
 ⟨(some 57), none, .bin .quo (t 56) (c (i64 32))⟩,
 ⟨(some 58), none, .bin .rem (t 57) (c (i64 3))⟩,
 ⟨(some 59), none, .bin .add (t 55) (t 58)⟩,
 ⟨(some 60), none, .maxmin false [(c (i64 240)), (t 59)]⟩,
 ⟨(some 61), none, .build [(i64 0), (i64 0)] [(0, 1, (t 54)), (1, 1, (t 60))]⟩,
 ⟨(some 62), none, .fieldAddr 1 (t 12)⟩,
 ⟨none, none, .store 2 (t 62) (t 61)⟩])
 (.ops [
 ⟨(some 63), none, .fieldAddr 2 (t 9)⟩,
 ⟨(some 64), none, .load1 (t 63)⟩,
 ⟨(some 65), none, .loadn 3 (t 12)⟩,
 ⟨(some 66), none, .buildSl [(i64 0), (i64 0), (i64 0)] 1 [(0, 3, (t 65))]⟩,
 ⟨(some 67), none, .append 3 24 (t 64) (t 66)⟩,
 ⟨(some 68), none, .fieldAddr 2 (t 9)⟩,
 ⟨none, none, .store 1 (t 68) (t 67)⟩]))))))
 (.ops [
 ⟨(some 33), none, .move (t 10)⟩,
 ⟨(some 34), none, .bin .add (t 33) (c (i64 1))⟩,
 ⟨(some 10), none, .move (t 34)⟩])))
attribute [go_sem] a65_l0b
def a65_l0 : ACode := a65_l0b
def a65b : ACode :=
 (.seq
 (.ops [
 ⟨(some 3), none, .boxI (t 0)⟩,
 ⟨(some 6), none, .alloc [(i64 0), .sl0, .sl0]⟩,
 ⟨(some 7), none, .move (c .sl0)⟩])
 (.seq
 (.dops [
 (⟨(some 14), none, .loadn 3 (t 3)⟩, 0, 1),
 (⟨(some 15), none, .move (t 1)⟩, 0, 1),
 (⟨(some 16), none, .conv .i64 (t 15)⟩, 0, 1),
 (⟨(some 17), none, .loadn 3 (t 3)⟩, 0, 0),
 (⟨(some 18), none, .call 51 [(t 17)]⟩, 0, 0),
 (⟨(some 19), none, .bin .rem (t 16) (t 18)⟩, 1, 1),
 (⟨(some 20), none, .call 50 [(t 14), (t 19)]⟩, 1, 1),
 (⟨(some 8), none, .move (t 20)⟩, 2, 2)])
 (.seq
 (.ops [
 ⟨(some 21), none, .loadn 3 (t 3)⟩,
 ⟨(some 9), none, .alloc [(i64 0), .sl0, .sl0]⟩,
 ⟨none, none, .store 3 (t 9) (t 21)⟩])
 (.seq
 (.ops [
 ⟨(some 22), none, .fieldAddr 2 (t 9)⟩,
 ⟨none, none, .store 1 (t 22) (c .sl0)⟩])
 (.seq
 (.seq
 (.ops [
 ⟨(some 10), none, .move (c (i64 0))⟩])
 (.block 0 (.loop ⟨[2, 3, 6, 8, 9, 10], [6, 8, 9], []⟩ a65_l0)))
 (.seq
 (.ops [
 ⟨(some 69), none, .loadn 3 (t 9)⟩,
 ⟨(some 70), none, .move (t 8)⟩,
 ⟨none, none, .store 3 (t 6) (t 69)⟩,
 ⟨(some 7), none, .move (t 70)⟩])
 .ret))))))
attribute [go_sem] a65b
def a65 : AFun := ⟨71, [.cell 6 (some 3), .tmp 7], a65b, (some 1)⟩
attribute [go_sem] a65
theorem a65_ok : cFun Go.Proofs.Try.prog (hintL [(3, 1)]) (keepL [(250, ⟨[2, 3, 6, 8, 9, 10], [6, 8, 9], []⟩)]) (some 1) Go.Proofs.Try.f65 = some a65 := by kernel_rfl
theorem a65_body : okBody Go.Proofs.Try.prog 65 = true := by kernel_rfl
def a66b : ACode :=
 (.seq
 (.ops [
 ⟨(some 3), none, .boxI (t 1)⟩,
 ⟨(some 4), none, .move (c (.bool false))⟩])
 (.seq
 (.ops [
 ⟨(some 5), none, .move (t 0)⟩,
 ⟨(some 6), none, .fieldAddr 0 (t 3)⟩,
 ⟨(some 7), none, .load1 (t 6)⟩,
 ⟨(some 8), none, .bin .geq (t 5) (t 7)⟩,
 ⟨(some 9), none, .move (t 8)⟩,
 ⟨(some 10), some (9, true), .move (t 0)⟩,
 ⟨(some 11), some (9, true), .fieldAddr 1 (t 3)⟩,
 ⟨(some 12), some (9, true), .load1 (t 11)⟩,
 ⟨(some 13), some (9, true), .bin .leq (t 10) (t 12)⟩,
 ⟨(some 14), none, .pick (t 9) (t 13) (c (.bool false))⟩,
 ⟨(some 4), none, .move (t 14)⟩])
 .ret))
attribute [go_sem] a66b
def a66 : AFun := ⟨15, [.tmp 4], a66b, (some 1)⟩
attribute [go_sem] a66
theorem a66_ok : cFun Go.Proofs.Try.prog (hintL [(3, 1)]) (fun _ => ⟨[], [], []⟩) (some 1) Go.Proofs.Try.f66 = some a66 := by kernel_rfl
theorem a66_body : okBody Go.Proofs.Try.prog 66 = true := by kernel_rfl
def a67_l0b : ACode :=
 (.seq
 (.ops [
 ⟨(some 37), none, .bin .lss (t 36) (t 35)⟩])
 (.seq
 (.cond (t 37)
 .skip
 (.exit 0))
 (.seq
 (.block 1 (.seq
 (.ops [
 ⟨(some 38), none, .indexSl 3 (t 34) (t 36)⟩,
 ⟨(some 39), none, .loadn 3 (t 38)⟩,
 ⟨(some 12), none, .alloc [(i64 0), (i64 0), (i64 0)]⟩,
 ⟨none, none, .store 3 (t 12) (t 39)⟩])
 (.seq
 (.dops [
 (⟨(some 40), none, .fieldAddr 0 (t 12)⟩, 0, 0),
 (⟨(some 41), none, .load1 (t 40)⟩, 0, 0),
 (⟨(some 42), none, .indexArr 6 1 (t 9) (t 41)⟩, 0, 0),
 (⟨(some 43), none, .load1 (t 42)⟩, 0, 0),
 (⟨(some 44), none, .fieldAddr 2 (t 12)⟩, 0, 0),
 (⟨(some 45), none, .load1 (t 44)⟩, 0, 0),
 (⟨(some 46), none, .bin .add (t 43) (t 45)⟩, 0, 0),
 (⟨(some 47), none, .indexArr 6 1 (t 9) (t 41)⟩, 0, 0),
 (⟨none, none, .store 1 (t 47) (t 46)⟩, 0, 0)])
 (.dops [
 (⟨(some 48), none, .fieldAddr 1 (t 12)⟩, 0, 0),
 (⟨(some 49), none, .load1 (t 48)⟩, 0, 0),
 (⟨(some 50), none, .indexArr 6 1 (t 9) (t 49)⟩, 0, 0),
 (⟨(some 51), none, .load1 (t 50)⟩, 0, 0),
 (⟨(some 52), none, .fieldAddr 2 (t 12)⟩, 0, 0),
 (⟨(some 53), none, .load1 (t 52)⟩, 0, 0),
 (⟨(some 54), none, .bin .sub (t 51) (t 53)⟩, 0, 0),
 (⟨(some 55), none, .indexArr 6 1 (t 9) (t 49)⟩, 0, 0),
 (⟨none, none, .store 1 (t 55) (t 54)⟩, 0, 0)]))))
 (.ops [
 ⟨(some 56), none, .bin .add (t 36) (c (i64 1))⟩,
 ⟨(some 36), none, .move (t 56)⟩]))))
attribute [go_sem] a67_l0b
def a67_l0 : ACode := a67_l0b
def a67b : ACode :=
 (.seq
 (.ops [
 ⟨(some 4), none, .boxI (t 0)⟩,
 ⟨(some 8), none, .move (c (.bool false))⟩])
 (.seq
 (.ops [
 ⟨(some 14), none, .loadn 3 (t 4)⟩,
 ⟨(some 15), none, .move (t 1)⟩,
 ⟨(some 16), none, .call 79 [(t 14), (t 15)]⟩,
 ⟨(some 13), none, .move (t 16)⟩,
 ⟨(some 17), none, .extract (t 13) 0⟩,
 ⟨(some 18), none, .extract (t 13) 1⟩,
 ⟨(some 9), none, .alloc (List.replicate 6 (i64 0))⟩,
 ⟨none, none, .store 6 (t 9) (t 17)⟩,
 ⟨(some 10), none, .move (t 18)⟩])
 (.seq
 (.seq
 (.ops [
 ⟨(some 19), none, .move (t 10)⟩,
 ⟨(some 20), none, .bin .neq (t 19) (c (i64 0))⟩,
 ⟨(some 21), none, .move (t 20)⟩,
 ⟨(some 22), some (21, false), .move (t 2)⟩,
 ⟨(some 23), some (21, false), .len (t 22)⟩,
 ⟨(some 24), some (21, false), .move (t 3)⟩,
 ⟨(some 25), some (21, false), .bin .gtr (t 23) (t 24)⟩,
 ⟨(some 26), none, .pick (t 21) (c (.bool true)) (t 25)⟩,
 ⟨(some 27), none, .move (t 26)⟩,
 ⟨(some 28), some (27, false), .move (t 2)⟩,
 ⟨(some 29), some (27, false), .loadn 3 (t 4)⟩,
 ⟨(some 30), some (27, false), .mkFn (.func 105) [(t 29)] []⟩,
 ⟨(some 31), some (27, false), .call 104 [(t 28), (t 30)]⟩,
 ⟨(some 32), some (27, false), .un .not (t 31)⟩,
 ⟨(some 33), none, .pick (t 27) (c (.bool true)) (t 32)⟩])
 (.cond (t 33)
 (.seq
 (.ops [
 ⟨(some 8), none, .move (c (.bool false))⟩])
 .ret)
 .skip))
 (.seq
 (.seq
 (.ops [
 ⟨(some 34), none, .move (t 2)⟩,
 ⟨(some 35), none, .len (t 34)⟩,
 ⟨(some 36), none, .move (c (i64 0))⟩])
 (.block 0 (.loop ⟨[9, 34, 35, 36], [9], []⟩ a67_l0)))
 (.seq
 (.ops [
 ⟨(some 57), none, .loadn 6 (t 9)⟩,
 ⟨(some 58), none, .build (List.replicate 6 (i64 0)) []⟩,
 ⟨(some 59), none, .eqagg false [0, 0, 0, 0, 0, 0] (t 57) (t 58)⟩,
 ⟨(some 8), none, .move (t 59)⟩])
 .ret)))))
attribute [go_sem] a67b
def a67 : AFun := ⟨60, [.tmp 8], a67b, (some 1)⟩
attribute [go_sem] a67
theorem a67_ok : cFun Go.Proofs.Try.prog (hintL [(4, 1)]) (keepL [(122, ⟨[9, 34, 35, 36], [9], []⟩)]) (some 1) Go.Proofs.Try.f67 = some a67 := by kernel_rfl
theorem a67_body : okBody Go.Proofs.Try.prog 67 = true := by kernel_rfl
def a68_l0b : ACode :=
 (.seq
 (.seq
 (.ops [
 ⟨(some 5), none, .move (t 4)⟩,
 ⟨(some 6), none, .move (t 0)⟩,
 ⟨(some 7), none, .len (t 6)⟩,
 ⟨(some 8), none, .bin .lss (t 5) (t 7)⟩])
 (.cond (t 8)
 .skip
 (.exit 0)))
 (.seq
 (.block 1 (.dops [
 (⟨(some 11), none, .move (t 3)⟩, 0, 0),
 (⟨(some 12), none, .move (t 0)⟩, 0, 0),
 (⟨(some 13), none, .move (t 4)⟩, 0, 0),
 (⟨(some 14), none, .indexSl 3 (t 12) (t 13)⟩, 0, 0),
 (⟨(some 15), none, .fieldAddr 0 (t 14)⟩, 0, 0),
 (⟨(some 16), none, .load1 (t 15)⟩, 0, 0),
 (⟨(some 17), none, .move (t 0)⟩, 0, 0),
 (⟨(some 18), none, .move (t 4)⟩, 0, 0),
 (⟨(some 19), none, .indexSl 3 (t 17) (t 18)⟩, 0, 0),
 (⟨(some 20), none, .fieldAddr 1 (t 19)⟩, 0, 0),
 (⟨(some 21), none, .load1 (t 20)⟩, 0, 0),
 (⟨(some 22), none, .move (t 0)⟩, 0, 0),
 (⟨(some 23), none, .move (t 4)⟩, 0, 0),
 (⟨(some 24), none, .indexSl 3 (t 22) (t 23)⟩, 0, 0),
 (⟨(some 25), none, .fieldAddr 2 (t 24)⟩, 0, 0),
 (⟨(some 26), none, .load1 (t 25)⟩, 0, 0),
 (⟨(some 27), none, .build [(i64 0), (i64 0), (i64 0)] [(0, 1, (t 16)), (1, 1, (t 21)), (2, 1, (t 26))]⟩, 0, 0),
 (⟨(some 28), none, .buildSl [(i64 0), (i64 0), (i64 0)] 1 [(0, 3, (t 27))]⟩, 0, 0),
 (⟨(some 29), none, .append 3 24 (t 11) (t 28)⟩, 0, 0),
 (⟨(some 3), none, .move (t 29)⟩, 1, 1)]))
 (.ops [
 ⟨(some 9), none, .move (t 4)⟩,
 ⟨(some 10), none, .bin .add (t 9) (c (i64 1))⟩,
 ⟨(some 4), none, .move (t 10)⟩])))
attribute [go_sem] a68_l0b
def a68_l0 : ACode := a68_l0b
def a68b : ACode :=
 (.seq
 (.ops [
 ⟨(some 2), none, .move (c .sl0)⟩])
 (.seq
 (.ops [
 ⟨(some 3), none, .move (c .sl0)⟩])
 (.seq
 (.seq
 (.ops [
 ⟨(some 4), none, .move (c (i64 0))⟩])
 (.block 0 (.loop ⟨[0, 3, 4], [3], []⟩ a68_l0)))
 (.seq
 (.ops [
 ⟨(some 30), none, .move (t 3)⟩,
 ⟨(some 2), none, .move (t 30)⟩])
 .ret))))
attribute [go_sem] a68b
def a68 : AFun := ⟨31, [.tmp 2], a68b, (some 3)⟩
attribute [go_sem] a68
theorem a68_ok : cFun Go.Proofs.Try.prog (fun _ => 0) (keepL [(58, ⟨[0, 3, 4], [3], []⟩)]) (some 3) Go.Proofs.Try.f68 = some a68 := by kernel_rfl
theorem a68_body : okBody Go.Proofs.Try.prog 68 = true := by kernel_rfl
def a69_l0b : ACode :=
 (.seq
 (.seq
 (.ops [
 ⟨(some 20), none, .move (t 9)⟩,
 ⟨(some 21), none, .move (t 2)⟩,
 ⟨(some 22), none, .len (t 21)⟩,
 ⟨(some 23), none, .bin .lss (t 20) (t 22)⟩])
 (.cond (t 23)
 .skip
 (.exit 2)))
 (.seq
 (.block 3 (.seq
 (.seq
 (.ops [
 ⟨(some 26), none, .move (t 2)⟩,
 ⟨(some 27), none, .move (t 9)⟩,
 ⟨(some 28), none, .indexSl 3 (t 26) (t 27)⟩,
 ⟨(some 29), none, .fieldAddr 0 (t 28)⟩,
 ⟨(some 30), none, .load1 (t 29)⟩,
 ⟨(some 31), none, .move (t 7)⟩,
 ⟨(some 32), none, .bin .eql (t 30) (t 31)⟩])
 (.cond (t 32)
 (.ops [
 ⟨(some 33), none, .move (t 8)⟩,
 ⟨(some 34), none, .move (t 2)⟩,
 ⟨(some 35), none, .move (t 9)⟩,
 ⟨(some 36), none, .indexSl 3 (t 34) (t 35)⟩,
 ⟨(some 37), none, .fieldAddr 2 (t 36)⟩,
 ⟨(some 38), none, .load1 (t 37)⟩,
 ⟨(some 39), none, .bin .add (t 33) (t 38)⟩,
 ⟨(some 8), none, .move (t 39)⟩])
 .skip))
 (.seq
 (.ops [
 ⟨(some 40), none, .move (t 2)⟩,
 ⟨(some 41), none, .move (t 9)⟩,
 ⟨(some 42), none, .indexSl 3 (t 40) (t 41)⟩,
 ⟨(some 43), none, .fieldAddr 1 (t 42)⟩,
 ⟨(some 44), none, .load1 (t 43)⟩,
 ⟨(some 45), none, .move (t 7)⟩,
 ⟨(some 46), none, .bin .eql (t 44) (t 45)⟩])
 (.cond (t 46)
 (.ops [
 ⟨(some 47), none, .move (t 8)⟩,
 ⟨(some 48), none, .move (t 2)⟩,
 ⟨(some 49), none, .move (t 9)⟩,
 ⟨(some 50), none, .indexSl 3 (t 48) (t 49)⟩,
 ⟨(some 51), none, .fieldAddr 2 (t 50)⟩,
 ⟨(some 52), none, .load1 (t 51)⟩,
 ⟨(some 53), none, .bin .sub (t 47) (t 52)⟩,
 ⟨(some 8), none, .move (t 53)⟩])
 .skip))))
 (.ops [
 ⟨(some 24), none, .move (t 9)⟩,
 ⟨(some 25), none, .bin .add (t 24) (c (i64 1))⟩,
 ⟨(some 9), none, .move (t 25)⟩])))
attribute [go_sem] a69_l0b
def a69_l0 : ACode := a69_l0b
def a69_l1b : ACode :=
 (.seq
 (.seq
 (.ops [
 ⟨(some 10), none, .move (t 7)⟩,
 ⟨(some 11), none, .fieldAddr 0 (t 3)⟩,
 ⟨(some 12), none, .load1 (t 11)⟩,
 ⟨(some 13), none, .bin .lss (t 10) (t 12)⟩])
 (.cond (t 13)
 .skip
 (.exit 0)))
 (.seq
 (.block 1 (.seq
 (.ops [
 ⟨(some 16), none, .loadn 3 (t 3)⟩,
 ⟨(some 17), none, .move (t 1)⟩,
 ⟨(some 18), none, .move (t 7)⟩,
 ⟨(some 19), none, .call 48 [(t 16), (t 17), (t 18)]⟩,
 ⟨(some 8), none, .move (t 19)⟩])
 (.seq
 (.seq
 (.ops [
 ⟨(some 9), none, .move (c (i64 0))⟩])
 (.block 2 (.loop ⟨[1, 2, 3, 7, 8, 9], [1, 2, 3, 7, 8], []⟩ a69_l0)))
 (.seq
 (.ops [
 ⟨(some 54), none, .move (t 8)⟩,
 ⟨(some 55), none, .bin .neq (t 54) (c (i64 0))⟩])
 (.cond (t 55)
 (.seq
 (.ops [
 ⟨(some 6), none, .move (c (.bool false))⟩])
 .ret)
 .skip)))))
 (.ops [
 ⟨(some 14), none, .move (t 7)⟩,
 ⟨(some 15), none, .bin .add (t 14) (c (i64 1))⟩,
 ⟨(some 7), none, .move (t 15)⟩])))
attribute [go_sem] a69_l1b
def a69_l1 : ACode := a69_l1b
def a69b : ACode :=
 (.seq
 (.ops [
 ⟨(some 3), none, .boxI (t 0)⟩,
 ⟨(some 6), none, .move (c (.bool false))⟩])
 (.seq
 (.seq
 (.ops [
 ⟨(some 7), none, .move (c (i64 0))⟩])
 (.block 0 (.loop ⟨[1, 2, 3, 7], [], [6]⟩ a69_l1)))
 (.seq
 (.ops [
 ⟨(some 6), none, .move (c (.bool true))⟩])
 .ret)))
attribute [go_sem] a69b
def a69 : AFun := ⟨56, [.tmp 6], a69b, (some 1)⟩
attribute [go_sem] a69
theorem a69_ok : cFun Go.Proofs.Try.prog (hintL [(3, 1)]) (keepL [(26, ⟨[1, 2, 3, 7], [], [6]⟩), (6730, ⟨[1, 2, 3, 7, 8, 9], [1, 2, 3, 7, 8], []⟩)]) (some 1) Go.Proofs.Try.f69 = some a69 := by kernel_rfl
theorem a69_body : okBody Go.Proofs.Try.prog 69 = true := by kernel_rfl
def a70_l0b : ACode :=
 (.seq
 (.seq
 (.ops [
 ⟨(some 9), none, .move (t 6)⟩,
 ⟨(some 10), none, .move (t 1)⟩,
 ⟨(some 11), none, .call 103 [(t 10), (c (i64 0))]⟩,
 ⟨(some 12), none, .bin .rem (t 11) (c (i64 6))⟩,
 ⟨(some 13), none, .bin .lss (t 9) (t 12)⟩,
 ⟨(some 14), none, .move (t 13)⟩,
 ⟨(some 15), some (14, true), .fieldAddr 0 (t 2)⟩,
 ⟨(some 16), some (14, true), .load1 (t 15)⟩,
 ⟨(some 17), some (14, true), .bin .gtr (t 16) (c (i64 1))⟩,
 ⟨(some 18), none, .pick (t 14) (t 17) (c (.bool false))⟩])
 (.cond (t 18)
 .skip
 (.exit 0)))
 (.seq
 (.block 1 (.seq
 (.ops [
 ⟨(some 21), none, .move (t 1)⟩,
 ⟨(some 22), none, .move (t 6)⟩,
 ⟨(some 23), none, .bin .add (t 22) (c (i64 1))⟩,
 ⟨(some 24), none, .call 103 [(t 21), (t 23)]⟩,
 ⟨(some 7), none, .move (t 24)⟩])
 (.seq
 (.ops [
 ⟨(some 25), none, .move (t 7)⟩,
 ⟨(some 26), none, .fieldAddr 0 (t 2)⟩,
 ⟨(some 27), none, .load1 (t 26)⟩,
 ⟨(some 28), none, .bin .rem (t 25) (t 27)⟩,
 ⟨(some 8), none, .move (t 28)⟩])
 (.dops [
 (⟨(some 29), none, .move (t 5)⟩, 0, 0),
 (⟨(some 30), none, .move (t 8)⟩, 0, 0),
 (⟨(some 31), none, .move (t 8)⟩, 0, 0),
 (⟨(some 32), none, .bin .add (t 31) (c (i64 1))⟩, 0, 0),
 (⟨(some 33), none, .move (t 7)⟩, 0, 0),
 (⟨(some 34), none, .bin .quo (t 33) (c (i64 8))⟩, 0, 0),
 (⟨(some 35), none, .fieldAddr 0 (t 2)⟩, 0, 0),
 (⟨(some 36), none, .load1 (t 35)⟩, 0, 0),
 (⟨(some 37), none, .bin .sub (t 36) (c (i64 1))⟩, 0, 0),
 (⟨(some 38), none, .bin .rem (t 34) (t 37)⟩, 0, 0),
 (⟨(some 39), none, .bin .add (t 32) (t 38)⟩, 0, 0),
 (⟨(some 40), none, .fieldAddr 0 (t 2)⟩, 0, 0),
 (⟨(some 41), none, .load1 (t 40)⟩, 0, 0),
 (⟨(some 42), none, .bin .rem (t 39) (t 41)⟩, 0, 0),
 (⟨(some 43), none, .move (t 7)⟩, 0, 0),
 (⟨(some 44), none, .bin .quo (t 43) (c (i64 64))⟩, 0, 0),
 (⟨(some 45), none, .bin .rem (t 44) (c (i64 12))⟩, 0, 0),
 (⟨(some 46), none, .bin .add (c (i64 1)) (t 45)⟩, 0, 0),
 (⟨(some 47), none, .build [(i64 0), (i64 0), (i64 0)] [(0, 1, (t 30)), (1, 1, (t 42)), (2, 1, (t 46))]⟩, 0, 0),
 (⟨(some 48), none, .buildSl [(i64 0), (i64 0), (i64 0)] 1 [(0, 3, (t 47))]⟩, 0, 0),
 (⟨(some 49), none, .append 3 24 (t 29) (t 48)⟩, 0, 0),
 (⟨(some 5), none, .move (t 49)⟩, 1, 1)]))))
 (.ops [
 ⟨(some 19), none, .move (t 6)⟩,
 ⟨(some 20), none, .bin .add (t 19) (c (i64 1))⟩,
 ⟨(some 6), none, .move (t 20)⟩])))
attribute [go_sem] a70_l0b
def a70_l0 : ACode := a70_l0b
def a70b : ACode :=
 (.seq
 (.ops [
 ⟨(some 2), none, .boxI (t 0)⟩,
 ⟨(some 4), none, .move (c .sl0)⟩])
 (.seq
 (.ops [
 ⟨(some 5), none, .move (c .sl0)⟩])
 (.seq
 (.seq
 (.ops [
 ⟨(some 6), none, .move (c (i64 0))⟩])
 (.block 0 (.loop ⟨[1, 2, 5, 6], [5], []⟩ a70_l0)))
 (.seq
 (.ops [
 ⟨(some 50), none, .move (t 5)⟩,
 ⟨(some 4), none, .move (t 50)⟩])
 .ret))))
attribute [go_sem] a70b
def a70 : AFun := ⟨51, [.tmp 4], a70b, (some 3)⟩
attribute [go_sem] a70
theorem a70_ok : cFun Go.Proofs.Try.prog (hintL [(2, 1)]) (keepL [(58, ⟨[1, 2, 5, 6], [5], []⟩)]) (some 3) Go.Proofs.Try.f70 = some a70 := by kernel_rfl
theorem a70_body : okBody Go.Proofs.Try.prog 70 = true := by kernel_rfl
def a71b : ACode :=
 (.seq
 (.ops [
 ⟨(some 2), none, .alloc [(i64 0), .sl0, .sl0]⟩])
 (.seq
 (.ops [
 ⟨(some 4), none, .call 72 [(c (i64 (-4))), (c (i64 (-3)))]⟩,
 ⟨(some 5), none, .build [(i64 0), (i64 0), (i64 0)] [(0, 1, (c (i64 2))), (1, 2, (t 4))]⟩,
 ⟨(some 6), none, .call 72 [(c (i64 (-1))), (c (i64 (-1)))]⟩,
 ⟨(some 7), none, .build [(i64 0), (i64 0), (i64 0)] [(0, 1, (c (i64 1))), (1, 2, (t 6))]⟩,
 ⟨(some 8), none, .call 72 [(c (i64 2)), (c (i64 2))]⟩,
 ⟨(some 9), none, .build [(i64 0), (i64 0), (i64 0)] [(0, 1, (c (i64 0))), (1, 2, (t 8))]⟩,
 ⟨(some 10), none, .buildSl (List.replicate 9 (i64 0)) 3 [(0, 3, (t 5)), (3, 3, (t 7)), (6, 3, (t 9))]⟩,
 ⟨(some 3), none, .move (t 10)⟩])
 (.seq
 (.dops [
 (⟨(some 11), none, .call 72 [(c (i64 2)), (c (i64 3))]⟩, 0, 0),
 (⟨(some 12), none, .build (List.replicate 4 (i64 0)) [(0, 1, (c (i64 0))), (1, 1, (c (i64 1))), (2, 2, (t 11))]⟩, 1, 3),
 (⟨(some 13), none, .call 72 [(c (i64 2)), (c (i64 2))]⟩, 1, 1),
 (⟨(some 14), none, .build (List.replicate 4 (i64 0)) [(0, 1, (c (i64 1))), (1, 1, (c (i64 2))), (2, 2, (t 13))]⟩, 2, 3),
 (⟨(some 15), none, .call 72 [(c (i64 1)), (c (i64 4))]⟩, 2, 2),
 (⟨(some 16), none, .build (List.replicate 4 (i64 0)) [(0, 1, (c (i64 3))), (1, 1, (c (i64 2))), (2, 2, (t 15))]⟩, 3, 3),
 (⟨(some 17), none, .buildSl (List.replicate 12 (i64 0)) 3 [(0, 4, (t 12)), (4, 4, (t 14)), (8, 4, (t 16))]⟩, 3, 3),
 (⟨(some 18), none, .move (t 3)⟩, 0, 3),
 (⟨(some 19), none, .move (t 0)⟩, 0, 3),
 (⟨(some 20), none, .slice 3 (t 18) none (some (t 19)) none⟩, 0, 3),
 (⟨(some 21), none, .build [(i64 0), .sl0, .sl0] [(0, 1, (c (i64 4))), (1, 1, (t 17)), (2, 1, (t 20))]⟩, 3, 3),
 (⟨none, none, .store 3 (t 2) (t 21)⟩, 3, 3)])
 .ret)))
attribute [go_sem] a71b
def a71 : AFun := ⟨22, [.cell 2 (some 3)], a71b, (some 1)⟩
attribute [go_sem] a71
theorem a71_ok : cFun Go.Proofs.Try.prog (fun _ => 0) (fun _ => ⟨[], [], []⟩) (some 1) Go.Proofs.Try.f71 = some a71 := by kernel_rfl
theorem a71_body : okBody Go.Proofs.Try.prog 71 = true := by kernel_rfl
def a71v1b : ACode :=
 (.seq
 (.ops [
 ⟨(some 2), none, .alloc [(i64 0), .sl0, .sl0]⟩])
 (.seq
 (.ops [
 ⟨(some 4), none, .call 72 [(c (i64 (-4))), (c (i64 (-3)))]⟩,
 ⟨(some 5), none, .build [(i64 0), (i64 0), (i64 0)] [(0, 1, (c (i64 2))), (1, 2, (t 4))]⟩,
 ⟨(some 6), none, .call 72 [(c (i64 (-1))), (c (i64 (-1)))]⟩,
 ⟨(some 7), none, .build [(i64 0), (i64 0), (i64 0)] [(0, 1, (c (i64 1))), (1, 2, (t 6))]⟩,
 ⟨(some 8), none, .call 72 [(c (i64 2)), (c (i64 2))]⟩,
 ⟨(some 9), none, .build [(i64 0), (i64 0), (i64 0)] [(0, 1, (c (i64 0))), (1, 2, (t 8))]⟩,
 ⟨(some 10), none, .buildHs (List.replicate 9 (i64 0)) 3 [(0, 3, (t 5)), (3, 3, (t 7)), (6, 3, (t 9))]⟩,
 ⟨(some 3), none, .move (t 10)⟩])
 (.seq
 (.dops [
 (⟨(some 11), none, .call 72 [(c (i64 2)), (c (i64 3))]⟩, 0, 0),
 (⟨(some 12), none, .build (List.replicate 4 (i64 0)) [(0, 1, (c (i64 0))), (1, 1, (c (i64 1))), (2, 2, (t 11))]⟩, 1, 3),
 (⟨(some 13), none, .call 72 [(c (i64 2)), (c (i64 2))]⟩, 1, 1),
 (⟨(some 14), none, .build (List.replicate 4 (i64 0)) [(0, 1, (c (i64 1))), (1, 1, (c (i64 2))), (2, 2, (t 13))]⟩, 2, 3),
 (⟨(some 15), none, .call 72 [(c (i64 1)), (c (i64 4))]⟩, 2, 2),
 (⟨(some 16), none, .build (List.replicate 4 (i64 0)) [(0, 1, (c (i64 3))), (1, 1, (c (i64 2))), (2, 2, (t 15))]⟩, 3, 3),
 (⟨(some 17), none, .buildHs (List.replicate 12 (i64 0)) 3 [(0, 4, (t 12)), (4, 4, (t 14)), (8, 4, (t 16))]⟩, 3, 3),
 (⟨(some 18), none, .move (t 3)⟩, 0, 4),
 (⟨(some 19), none, .move (t 0)⟩, 0, 4),
 (⟨(some 20), none, .slice 3 (t 18) none (some (t 19)) none⟩, 0, 4),
 (⟨(some 21), none, .build [(i64 0), .sl0, .sl0] [(0, 1, (c (i64 4))), (1, 1, (t 17)), (2, 1, (t 20))]⟩, 4, 4),
 (⟨none, none, .store 3 (t 2) (t 21)⟩, 4, 4)])
 .ret)))
attribute [go_sem] a71v1b
def a71v1 : AFun := ⟨22, [.cell 2 (some 3)], a71v1b, none⟩
attribute [go_sem] a71v1
theorem a71v1_ok : cFun Go.Proofs.Try.prog (hintL [(10, 1), (17, 1)]) (fun _ => ⟨[], [], []⟩) none Go.Proofs.Try.f71 = some a71v1 := by kernel_rfl
theorem a71v1_body : okBody Go.Proofs.Try.prog 71 = true := by kernel_rfl
def a72b : ACode :=
 (.seq
 (.ops [
 ⟨(some 4), none, .alloc [(i64 0), (i64 0)]⟩])
 (.seq
 (.ops [
 ⟨(some 5), none, .move (t 0)⟩,
 ⟨(some 6), none, .move (t 1)⟩,
 ⟨(some 7), none, .build [(i64 0), (i64 0)] [(0, 1, (t 5)), (1, 1, (t 6))]⟩,
 ⟨none, none, .store 2 (t 4) (t 7)⟩])
 .ret))
attribute [go_sem] a72b
def a72 : AFun := ⟨8, [.cell 4 (some 2)], a72b, (some 1)⟩
attribute [go_sem] a72
theorem a72_ok : cFun Go.Proofs.Try.prog (fun _ => 0) (fun _ => ⟨[], [], []⟩) (some 1) Go.Proofs.Try.f72 = some a72 := by kernel_rfl
theorem a72_body : okBody Go.Proofs.Try.prog 72 = true := by kernel_rfl
def a73_l0b : ACode :=
 (.seq
 (.seq
 (.ops [
 ⟨(some 25), none, .move (t 3)⟩,
 ⟨(some 26), none, .fieldAddr 1 (t 1)⟩,
 ⟨(some 27), none, .load1 (t 26)⟩,
 ⟨(some 28), none, .len (t 27)⟩,
 ⟨(some 29), none, .bin .lss (t 25) (t 28)⟩])
 (.cond (t 29)
 .skip
 (.exit 0)))
 (.seq
 (.block 1 (.seq
 (.ops [
 ⟨(some 32), none, .fieldAddr 1 (t 1)⟩,
 ⟨(some 33), none, .load1 (t 32)⟩,
 ⟨(some 34), none, .move (t 3)⟩,
 ⟨(some 35), none, .indexSl 4 (t 33) (t 34)⟩,
 ⟨(some 36), none, .loadn 4 (t 35)⟩,
 ⟨(some 4), none, .alloc (List.replicate 4 (i64 0))⟩,
 ⟨none, none, .store 4 (t 4) (t 36)⟩])
 (.seq
 (.ops [
 ⟨(some 37), none, .loadn 3 (t 1)⟩,
 ⟨(some 38), none, .fieldAddr 0 (t 4)⟩,
 ⟨(some 39), none, .load1 (t 38)⟩,
 ⟨(some 40), none, .fieldAddr 1 (t 4)⟩,
 ⟨(some 41), none, .load1 (t 40)⟩,
 ⟨(some 42), none, .call 92 [(t 37), (t 39), (t 41)]⟩,
 ⟨(some 43), none, .un .not (t 42)⟩,
 ⟨(some 44), none, .move (t 43)⟩,
 ⟨(some 45), some (44, false), .fieldAddr 2 (t 4)⟩,
 ⟨(some 46), some (44, false), .fieldAddr 0 (t 45)⟩,
 ⟨(some 47), some (44, false), .load1 (t 46)⟩,
 ⟨(some 48), some (44, false), .bin .lss (t 47) (c (i64 0))⟩,
 ⟨(some 49), none, .pick (t 44) (c (.bool true)) (t 48)⟩,
 ⟨(some 50), none, .move (t 49)⟩,
 ⟨(some 51), some (50, false), .fieldAddr 2 (t 4)⟩,
 ⟨(some 52), some (50, false), .fieldAddr 0 (t 51)⟩,
 ⟨(some 53), some (50, false), .load1 (t 52)⟩,
 ⟨(some 54), some (50, false), .fieldAddr 2 (t 4)⟩,
 ⟨(some 55), some (50, false), .fieldAddr 1 (t 54)⟩,
 ⟨(some 56), some (50, false), .load1 (t 55)⟩,
 ⟨(some 57), some (50, false), .bin .gtr (t 53) (t 56)⟩,
 ⟨(some 58), none, .pick (t 50) (c (.bool true)) (t 57)⟩,
 ⟨(some 59), none, .move (t 58)⟩,
 ⟨(some 60), some (59, false), .fieldAddr 2 (t 4)⟩,
 ⟨(some 61), some (59, false), .fieldAddr 1 (t 60)⟩,
 ⟨(some 62), some (59, false), .load1 (t 61)⟩,
 ⟨(some 63), some (59, false), .bin .gtr (t 62) (c (i64 40))⟩,
 ⟨(some 64), none, .pick (t 59) (c (.bool true)) (t 63)⟩])
 (.cond (t 64)
 (.seq
 (.ops [
 ⟨(some 2), none, .move (c (i64 1))⟩])
 .ret)
 .skip))))
 (.ops [
 ⟨(some 30), none, .move (t 3)⟩,
 ⟨(some 31), none, .bin .add (t 30) (c (i64 1))⟩,
 ⟨(some 3), none, .move (t 31)⟩])))
attribute [go_sem] a73_l0b
def a73_l0 : ACode := a73_l0b
@[go_sem] theorem a73_l0_ev (H : Han) (fr : List AVal) (s : St) : evalCode H a73_l0 fr s = evalCode H a73_l0b fr s := (rfl)
def a73_l1b : ACode :=
 (.seq
 (.seq
 (.ops [
 ⟨(some 65), none, .move (t 5)⟩,
 ⟨(some 66), none, .fieldAddr 2 (t 1)⟩,
 ⟨(some 67), none, .load1 (t 66)⟩,
 ⟨(some 68), none, .len (t 67)⟩,
 ⟨(some 69), none, .bin .lss (t 65) (t 68)⟩])
 (.cond (t 69)
 .skip
 (.exit 2)))
 (.seq
 (.block 3 (.seq
 (.ops [
 ⟨(some 72), none, .fieldAddr 2 (t 1)⟩,
 ⟨(some 73), none, .load1 (t 72)⟩,
 ⟨(some 74), none, .move (t 5)⟩,
 ⟨(some 75), none, .indexSl 3 (t 73) (t 74)⟩,
 ⟨(some 76), none, .loadn 3 (t 75)⟩,
 ⟨(some 6), none, .alloc [(i64 0), (i64 0), (i64 0)]⟩,
 ⟨none, none, .store 3 (t 6) (t 76)⟩])
 (.seq
 (.ops [
 ⟨(some 77), none, .fieldAddr 0 (t 6)⟩,
 ⟨(some 78), none, .load1 (t 77)⟩,
 ⟨(some 79), none, .fieldAddr 0 (t 1)⟩,
 ⟨(some 80), none, .load1 (t 79)⟩,
 ⟨(some 81), none, .bin .sub (t 80) (c (i64 1))⟩,
 ⟨(some 82), none, .call 54 [(t 78), (c (i64 0)), (t 81)]⟩,
 ⟨(some 83), none, .un .not (t 82)⟩,
 ⟨(some 84), none, .move (t 83)⟩,
 ⟨(some 85), some (84, false), .fieldAddr 1 (t 6)⟩,
 ⟨(some 86), some (84, false), .fieldAddr 0 (t 85)⟩,
 ⟨(some 87), some (84, false), .load1 (t 86)⟩,
 ⟨(some 88), some (84, false), .bin .lss (t 87) (c (i64 (-240)))⟩,
 ⟨(some 89), none, .pick (t 84) (c (.bool true)) (t 88)⟩,
 ⟨(some 90), none, .move (t 89)⟩,
 ⟨(some 91), some (90, false), .fieldAddr 1 (t 6)⟩,
 ⟨(some 92), some (90, false), .fieldAddr 0 (t 91)⟩,
 ⟨(some 93), some (90, false), .load1 (t 92)⟩,
 ⟨(some 94), some (90, false), .fieldAddr 1 (t 6)⟩,
 ⟨(some 95), some (90, false), .fieldAddr 1 (t 94)⟩,
 ⟨(some 96), some (90, false), .load1 (t 95)⟩,
 ⟨(some 97), some (90, false), .bin .gtr (t 93) (t 96)⟩,
 ⟨(some 98), none, .pick (t 90) (c (.bool true)) (t 97)⟩,
 ⟨(some 99), none, .move (t 98)⟩,
 ⟨(some 100), some (99, false), .fieldAddr 1 (t 6)⟩,
 ⟨(some 101), some (99, false), .fieldAddr 1 (t 100)⟩,
 ⟨(some 102), some (99, false), .load1 (t 101)⟩,
 ⟨(some 103), some (99, false), .bin .gtr (t 102) (c (i64 240))⟩,
 ⟨(some 104), none, .pick (t 99) (c (.bool true)) (t 103)⟩])
 (.cond (t 104)
 (.seq
 (.ops [
 ⟨(some 2), none, .move (c (i64 1))⟩])
 .ret)
 .skip))))
 (.ops [
 ⟨(some 70), none, .move (t 5)⟩,
 ⟨(some 71), none, .bin .add (t 70) (c (i64 1))⟩,
 ⟨(some 5), none, .move (t 71)⟩])))
attribute [go_sem] a73_l1b
def a73_l1 : ACode := a73_l1b
@[go_sem] theorem a73_l1_ev (H : Han) (fr : List AVal) (s : St) : evalCode H a73_l1 fr s = evalCode H a73_l1b fr s := (rfl)
def a73b : ACode :=
 (.seq
 (.ops [
 ⟨(some 1), none, .boxI (t 0)⟩,
 ⟨(some 2), none, .move (c (i64 0))⟩])
 (.seq
 (.seq
 (.ops [
 ⟨(some 7), none, .fieldAddr 0 (t 1)⟩,
 ⟨(some 8), none, .load1 (t 7)⟩,
 ⟨(some 9), none, .bin .gtr (t 8) (c (i64 6))⟩,
 ⟨(some 10), none, .move (t 9)⟩,
 ⟨(some 11), some (10, false), .fieldAddr 1 (t 1)⟩,
 ⟨(some 12), some (10, false), .load1 (t 11)⟩,
 ⟨(some 13), some (10, false), .len (t 12)⟩,
 ⟨(some 14), some (10, false), .bin .gtr (t 13) (c (i64 6))⟩,
 ⟨(some 15), none, .pick (t 10) (c (.bool true)) (t 14)⟩,
 ⟨(some 16), none, .move (t 15)⟩,
 ⟨(some 17), some (16, false), .fieldAddr 2 (t 1)⟩,
 ⟨(some 18), some (16, false), .load1 (t 17)⟩,
 ⟨(some 19), some (16, false), .len (t 18)⟩,
 ⟨(some 20), some (16, false), .bin .gtr (t 19) (c (i64 5))⟩,
 ⟨(some 21), none, .pick (t 16) (c (.bool true)) (t 20)⟩])
 (.cond (t 21)
 (.seq
 (.ops [
 ⟨(some 2), none, .move (c (i64 3))⟩])
 .ret)
 .skip))
 (.seq
 (.seq
 (.ops [
 ⟨(some 22), none, .fieldAddr 0 (t 1)⟩,
 ⟨(some 23), none, .load1 (t 22)⟩,
 ⟨(some 24), none, .bin .lss (t 23) (c (i64 0))⟩])
 (.cond (t 24)
 (.seq
 (.ops [
 ⟨(some 2), none, .move (c (i64 1))⟩])
 .ret)
 .skip))
 (.seq
 (.seq
 (.ops [
 ⟨(some 3), none, .move (c (i64 0))⟩])
 (.block 0 (.loop ⟨[1, 3], [1], [2]⟩ a73_l0)))
 (.seq
 (.seq
 (.ops [
 ⟨(some 5), none, .move (c (i64 0))⟩])
 (.block 2 (.loop ⟨[1, 5], [1], [2]⟩ a73_l1)))
 (.seq
 (.seq
 (.ops [
 ⟨(some 105), none, .loadn 3 (t 1)⟩,
 ⟨(some 106), none, .call 51 [(t 105)]⟩,
 ⟨(some 107), none, .bin .gtr (t 106) (c (i64 2000))⟩])
 (.cond (t 107)
 (.seq
 (.ops [
 ⟨(some 2), none, .move (c (i64 3))⟩])
 .ret)
 .skip))
 (.seq
 (.ops [
 ⟨(some 2), none, .move (c (i64 0))⟩])
 .ret)))))))
attribute [go_sem] a73b
def a73 : AFun := ⟨108, [.tmp 2], a73b, (some 1)⟩
attribute [go_sem] a73
theorem a73_ok : cFun Go.Proofs.Try.prog (hintL [(1, 1)]) (keepL [(122, ⟨[1, 3], [1], [2]⟩), (250, ⟨[1, 5], [1], [2]⟩)]) (some 1) Go.Proofs.Try.f73 = some a73 := by kernel_rfl
theorem a73_body : okBody Go.Proofs.Try.prog 73 = true := by kernel_rfl
def a74_l0b : ACode :=
 (.block 1 (.seq
 (.dops [
 (⟨(some 18), none, .loadn 3 (t 1)⟩, 0, 0),
 (⟨(some 19), none, .loadn 6 (t 6)⟩, 0, 0),
 (⟨(some 20), none, .call 96 [(t 18), (t 19), (c .sl0)]⟩, 0, 0),
 (⟨(some 21), none, .move (t 20)⟩, 1, 1),
 (⟨(some 22), some (21, true), .load1 (t 5)⟩, 1, 1),
 (⟨(some 23), some (21, true), .nilCheck (t 22)⟩, 1, 1),
 (⟨(some 24), some (21, true), .fieldAddr 3 (t 23)⟩, 1, 1),
 (⟨(some 25), some (21, true), .load1 (t 24)⟩, 1, 1),
 (⟨(some 26), some (21, true), .len (t 25)⟩, 1, 1),
 (⟨(some 27), some (21, true), .bin .eql (t 26) (c (i64 0))⟩, 1, 1),
 (⟨(some 28), some (21, true), .move (t 27)⟩, 1, 1),
 (⟨(some 29), some (28, false), .load1 (t 5)⟩, 1, 1),
 (⟨(some 30), some (28, false), .nilCheck (t 29)⟩, 1, 1),
 (⟨(some 31), some (28, false), .fieldAddr 3 (t 30)⟩, 1, 1),
 (⟨(some 32), some (28, false), .load1 (t 31)⟩, 1, 1),
 (⟨(some 33), some (28, false), .load1 (t 5)⟩, 1, 1),
 (⟨(some 34), some (28, false), .nilCheck (t 33)⟩, 1, 1),
 (⟨(some 35), some (28, false), .fieldAddr 3 (t 34)⟩, 1, 1),
 (⟨(some 36), some (28, false), .load1 (t 35)⟩, 1, 1),
 (⟨(some 37), some (28, false), .len (t 36)⟩, 1, 1),
 (⟨(some 38), some (28, false), .bin .sub (t 37) (c (i64 1))⟩, 1, 1),
 (⟨(some 39), some (28, false), .indexSl 1 (t 32) (t 38)⟩, 1, 1),
 (⟨(some 40), some (28, false), .load1 (t 39)⟩, 1, 1),
 (⟨(some 41), some (28, false), .nilCheck (t 40)⟩, 1, 1),
 (⟨(some 42), some (28, false), .fieldAddr 0 (t 41)⟩, 1, 1),
 (⟨(some 43), some (28, false), .loadn 6 (t 42)⟩, 1, 1),
 (⟨(some 44), some (28, false), .loadn 6 (t 6)⟩, 1, 1),
 (⟨(some 45), some (28, false), .eqagg true [0, 0, 0, 0, 0, 0] (t 43) (t 44)⟩, 1, 1),
 (⟨(some 46), some (21, true), .pick (t 28) (c (.bool true)) (t 45)⟩, 1, 1),
 (⟨(some 47), none, .pick (t 21) (t 46) (c (.bool false))⟩, 1, 1)])
 (.cond (t 47)
 (.dops [
 (⟨(some 48), none, .load1 (t 5)⟩, 0, 2),
 (⟨(some 49), none, .load1 (t 5)⟩, 0, 1),
 (⟨(some 50), none, .nilCheck (t 49)⟩, 0, 1),
 (⟨(some 51), none, .fieldAddr 3 (t 50)⟩, 0, 1),
 (⟨(some 52), none, .load1 (t 51)⟩, 0, 1),
 (⟨(some 53), none, .loadn 6 (t 6)⟩, 0, 0),
 (⟨(some 54), none, .call 80 [(t 53)]⟩, 0, 0),
 (⟨(some 55), none, .buildSl [.nilp] 1 [(0, 1, (t 54))]⟩, 1, 1),
 (⟨(some 56), none, .append 1 8 (t 52) (t 55)⟩, 1, 1),
 (⟨(some 57), none, .nilCheck (t 48)⟩, 2, 2),
 (⟨(some 58), none, .fieldAddr 3 (t 57)⟩, 2, 2),
 (⟨none, none, .store 1 (t 58) (t 56)⟩, 2, 2)])
 .skip)))
attribute [go_sem] a74_l0b
def a74_l0 : ACode := a74_l0b
@[go_sem] theorem a74_l0_ev (H : Han) (fr : List AVal) (s : St) : evalCode H a74_l0 fr s = evalCode H a74_l0b fr s := (rfl)
def a74b : ACode :=
 (.seq
 (.ops [
 ⟨(some 1), none, .boxI (t 0)⟩,
 ⟨(some 2), none, .move (c .nilp)⟩,
 ⟨(some 3), none, .move (c (i64 0))⟩])
 (.seq
 (.seq
 (.ops [
 ⟨(some 7), none, .loadn 3 (t 1)⟩,
 ⟨(some 8), none, .call 63 [(t 7)]⟩,
 ⟨(some 4), none, .move (t 8)⟩])
 (.seq
 (.ops [
 ⟨(some 9), none, .move (t 4)⟩,
 ⟨(some 10), none, .bin .neq (t 9) (c (i64 0))⟩])
 (.cond (t 10)
 (.seq
 (.ops [
 ⟨(some 11), none, .move (t 4)⟩,
 ⟨(some 2), none, .move (c .nilp)⟩,
 ⟨(some 3), none, .move (t 11)⟩])
 .ret)
 .skip)))
 (.seq
 (.ops [
 ⟨(some 12), none, .loadn 3 (t 1)⟩,
 ⟨(some 13), none, .build [(i64 0), .sl0, .sl0, .sl0] [(0, 3, (t 12))]⟩,
 ⟨(some 14), none, .box (t 13)⟩,
 ⟨(some 5), none, .alloc [.nilp]⟩,
 ⟨none, none, .store 1 (t 5) (t 14)⟩])
 (.seq
 (.seq
 (.ops [
 ⟨(some 15), none, .loadn 3 (t 1)⟩,
 ⟨(some 16), none, .call 106 [(t 15)]⟩])
 (.block 0 (.rangeFunc (t 16) [17]
 (.ops [
 ⟨(some 6), none, .alloc (List.replicate 6 (i64 0))⟩,
 ⟨none, none, .store 6 (t 6) (t 17)⟩])
 a74_l0)))
 (.seq
 (.seq
 (.ops [
 ⟨(some 59), none, .load1 (t 5)⟩,
 ⟨(some 60), none, .nilCheck (t 59)⟩,
 ⟨(some 61), none, .fieldAddr 3 (t 60)⟩,
 ⟨(some 62), none, .load1 (t 61)⟩,
 ⟨(some 63), none, .len (t 62)⟩,
 ⟨(some 64), none, .bin .eql (t 63) (c (i64 0))⟩])
 (.cond (t 64)
 (.seq
 (.ops [
 ⟨(some 2), none, .move (c .nilp)⟩,
 ⟨(some 3), none, .move (c (i64 11))⟩])
 .ret)
 .skip))
 (.seq
 (.ops [
 ⟨(some 65), none, .load1 (t 5)⟩,
 ⟨(some 2), none, .move (t 65)⟩,
 ⟨(some 3), none, .move (c (i64 0))⟩])
 .ret))))))
attribute [go_sem] a74b
def a74 : AFun := ⟨66, [.tmp 2, .tmp 3], a74b, none⟩
attribute [go_sem] a74
theorem a74_ok : cFun Go.Proofs.Try.prog (hintL [(1, 1)]) (fun _ => ⟨[], [], []⟩) none Go.Proofs.Try.f74 = some a74 := by kernel_rfl
theorem a74_body : okBody Go.Proofs.Try.prog 74 = true := by kernel_rfl
def a75b : ACode :=
 (.seq
 (.ops [
 ⟨(some 4), none, .move (c (i64 0))⟩])
 (.seq
 (.ops [
 ⟨(some 5), none, .move (t 0)⟩,
 ⟨(some 6), none, .move (t 1)⟩,
 ⟨(some 7), none, .nilCheck (t 5)⟩,
 ⟨(some 8), none, .fieldAddr 0 (t 7)⟩,
 ⟨(some 9), none, .indexArr 6 1 (t 8) (t 6)⟩,
 ⟨(some 10), none, .load1 (t 9)⟩,
 ⟨(some 4), none, .move (t 10)⟩])
 .ret))
attribute [go_sem] a75b
def a75 : AFun := ⟨11, [.tmp 4], a75b, (some 1)⟩
attribute [go_sem] a75
theorem a75_ok : cFun Go.Proofs.Try.prog (fun _ => 0) (fun _ => ⟨[], [], []⟩) (some 1) Go.Proofs.Try.f75 = some a75 := by kernel_rfl
theorem a75_body : okBody Go.Proofs.Try.prog 75 = true := by kernel_rfl
def a76_l0b : ACode :=
 (.seq
 (.ops [
 ⟨(some 16), none, .bin .lss (t 15) (t 14)⟩])
 (.seq
 (.cond (t 16)
 .skip
 (.exit 0))
 (.seq
 (.block 1 (.seq
 (.ops [
 ⟨(some 17), none, .move (t 15)⟩,
 ⟨(some 18), none, .indexSl 1 (t 13) (t 15)⟩,
 ⟨(some 19), none, .load1 (t 18)⟩,
 ⟨(some 7), none, .move (t 17)⟩,
 ⟨(some 8), none, .move (t 19)⟩])
 (.seq
 (.ops [
 ⟨(some 20), none, .fieldAddr 0 (t 3)⟩,
 ⟨(some 21), none, .load1 (t 20)⟩,
 ⟨(some 22), none, .move (t 8)⟩,
 ⟨(some 23), none, .move (t 2)⟩,
 ⟨(some 24), none, .callv (t 21) [(t 22), (t 23)]⟩,
 ⟨(some 9), none, .move (t 24)⟩])
 (.seq
 (.seq
 (.ops [
 ⟨(some 25), none, .move (t 7)⟩,
 ⟨(some 26), none, .bin .eql (t 25) (c (i64 0))⟩])
 (.cond (t 26)
 (.ops [
 ⟨(some 27), none, .move (t 9)⟩,
 ⟨(some 28), none, .move (t 9)⟩,
 ⟨(some 29), none, .build [(i64 0), (i64 0)] [(0, 1, (t 27)), (1, 1, (t 28))]⟩,
 ⟨none, none, .store 2 (t 6) (t 29)⟩])
 .skip))
 (.ops [
 ⟨(some 30), none, .loadn 2 (t 6)⟩,
 ⟨(some 31), none, .move (t 9)⟩,
 ⟨(some 32), none, .call 107 [(t 30), (t 31)]⟩,
 ⟨none, none, .store 2 (t 6) (t 32)⟩])))))
 (.ops [
 ⟨(some 33), none, .bin .add (t 15) (c (i64 1))⟩,
 ⟨(some 15), none, .move (t 33)⟩]))))
attribute [go_sem] a76_l0b
def a76_l0 : ACode := a76_l0b
@[go_sem] theorem a76_l0_ev (H : Han) (fr : List AVal) (s : St) : evalCode H a76_l0 fr s = evalCode H a76_l0b fr s := (rfl)
def a76b : ACode :=
 (.seq
 (.ops [
 ⟨(some 3), none, .boxI (t 0)⟩,
 ⟨(some 6), none, .alloc [(i64 0), (i64 0)]⟩])
 (.seq
 (.seq
 (.ops [
 ⟨(some 10), none, .move (t 1)⟩,
 ⟨(some 11), none, .nilCheck (t 10)⟩,
 ⟨(some 12), none, .fieldAddr 3 (t 11)⟩,
 ⟨(some 13), none, .load1 (t 12)⟩,
 ⟨(some 14), none, .len (t 13)⟩,
 ⟨(some 15), none, .move (c (i64 0))⟩])
 (.block 0 (.loop ⟨[2, 3, 6, 13, 14, 15], [6], []⟩ a76_l0)))
 (.seq
 (.ops [
 ⟨(some 34), none, .loadn 2 (t 6)⟩,
 ⟨none, none, .store 2 (t 6) (t 34)⟩])
 .ret)))
attribute [go_sem] a76b
def a76 : AFun := ⟨35, [.cell 6 (some 2)], a76b, none⟩
attribute [go_sem] a76
theorem a76_ok : cFun Go.Proofs.Try.prog (hintL [(3, 1)]) (keepL [(26, ⟨[2, 3, 6, 13, 14, 15], [6], []⟩)]) none Go.Proofs.Try.f76 = some a76 := by kernel_rfl
theorem a76_body : okBody Go.Proofs.Try.prog 76 = true := by kernel_rfl
def a77b : ACode :=
 (.seq
 (.ops [
 ⟨(some 0), none, .alloc [(i64 0), (i64 0)]⟩])
 (.seq
 (.ops [
 ⟨(some 1), none, .build [(i64 0), (i64 0)] [(0, 1, (c (i64 1099511627776))), (1, 1, (c (i64 (-1099511627776))))]⟩,
 ⟨none, none, .store 2 (t 0) (t 1)⟩])
 .ret))
attribute [go_sem] a77b
def a77 : AFun := ⟨2, [.cell 0 (some 2)], a77b, (some 1)⟩
attribute [go_sem] a77
theorem a77_ok : cFun Go.Proofs.Try.prog (fun _ => 0) (fun _ => ⟨[], [], []⟩) (some 1) Go.Proofs.Try.f77 = some a77 := by kernel_rfl
theorem a77_body : okBody Go.Proofs.Try.prog 77 = true := by kernel_rfl
def a78b : ACode :=
 (.seq
 (.ops [
 ⟨(some 2), none, .boxI (t 0)⟩,
 ⟨(some 4), none, .alloc [(i64 0), (i64 0)]⟩])
 (.seq
 (.ops [
 ⟨(some 5), none, .fieldAddr 0 (t 2)⟩,
 ⟨(some 6), none, .load1 (t 5)⟩,
 ⟨(some 7), none, .move (t 1)⟩,
 ⟨(some 8), none, .maxmin false [(t 6), (t 7)]⟩,
 ⟨(some 9), none, .fieldAddr 1 (t 2)⟩,
 ⟨(some 10), none, .load1 (t 9)⟩,
 ⟨(some 11), none, .move (t 1)⟩,
 ⟨(some 12), none, .maxmin true [(t 10), (t 11)]⟩,
 ⟨(some 13), none, .build [(i64 0), (i64 0)] [(0, 1, (t 8)), (1, 1, (t 12))]⟩,
 ⟨none, none, .store 2 (t 4) (t 13)⟩])
 .ret))
attribute [go_sem] a78b
def a78 : AFun := ⟨14, [.cell 4 (some 2)], a78b, (some 1)⟩
attribute [go_sem] a78
theorem a78_ok : cFun Go.Proofs.Try.prog (hintL [(2, 1)]) (fun _ => ⟨[], [], []⟩) (some 1) Go.Proofs.Try.f78 = some a78 := by kernel_rfl
theorem a78_body : okBody Go.Proofs.Try.prog 78 = true := by kernel_rfl
def a79b : ACode :=
 (.seq
 (.ops [
 ⟨(some 2), none, .boxI (t 0)⟩,
 ⟨(some 4), none, .alloc (List.replicate 6 (i64 0))⟩,
 ⟨(some 5), none, .move (c (i64 0))⟩])
 (.seq
 (.seq
 (.ops [
 ⟨(some 7), none, .loadn 3 (t 2)⟩,
 ⟨(some 8), none, .call 63 [(t 7)]⟩,
 ⟨(some 6), none, .move (t 8)⟩])
 (.seq
 (.ops [
 ⟨(some 9), none, .move (t 6)⟩,
 ⟨(some 10), none, .bin .neq (t 9) (c (i64 0))⟩])
 (.cond (t 10)
 (.seq
 (.ops [
 ⟨(some 11), none, .build (List.replicate 6 (i64 0)) []⟩,
 ⟨(some 12), none, .move (t 6)⟩,
 ⟨none, none, .store 6 (t 4) (t 11)⟩,
 ⟨(some 5), none, .move (t 12)⟩])
 .ret)
 .skip)))
 (.seq
 (.seq
 (.ops [
 ⟨(some 13), none, .loadn 3 (t 2)⟩,
 ⟨(some 14), none, .move (t 1)⟩,
 ⟨(some 15), none, .call 108 [(t 13), (t 14)]⟩,
 ⟨(some 16), none, .un .not (t 15)⟩])
 (.cond (t 16)
 (.seq
 (.ops [
 ⟨(some 17), none, .build (List.replicate 6 (i64 0)) []⟩,
 ⟨none, none, .store 6 (t 4) (t 17)⟩,
 ⟨(some 5), none, .move (c (i64 2))⟩])
 .ret)
 .skip))
 (.seq
 (.ops [
 ⟨(some 18), none, .loadn 3 (t 2)⟩,
 ⟨(some 19), none, .move (t 1)⟩,
 ⟨(some 20), none, .call 109 [(t 18), (t 19)]⟩,
 ⟨none, none, .store 6 (t 4) (t 20)⟩,
 ⟨(some 5), none, .move (c (i64 0))⟩])
 .ret))))
attribute [go_sem] a79b
def a79 : AFun := ⟨21, [.cell 4 (some 6), .tmp 5], a79b, (some 1)⟩
attribute [go_sem] a79
theorem a79_ok : cFun Go.Proofs.Try.prog (hintL [(2, 1)]) (fun _ => ⟨[], [], []⟩) (some 1) Go.Proofs.Try.f79 = some a79 := by kernel_rfl
theorem a79_body : okBody Go.Proofs.Try.prog 79 = true := by kernel_rfl
def a80b : ACode :=
 (.seq
 (.ops [
 ⟨(some 1), none, .boxI (t 0)⟩,
 ⟨(some 2), none, .move (c .nilp)⟩])
 (.seq
 (.ops [
 ⟨(some 3), none, .loadn 6 (t 1)⟩,
 ⟨(some 4), none, .mkMap true⟩,
 ⟨(some 5), none, .build [(i64 0), (i64 0), (i64 0), (i64 0), (i64 0), (i64 0), .nilm] [(0, 6, (t 3)), (6, 1, (t 4))]⟩,
 ⟨(some 6), none, .boxI (t 5)⟩,
 ⟨(some 2), none, .move (t 6)⟩])
 .ret))
attribute [go_sem] a80b
def a80 : AFun := ⟨7, [.tmp 2], a80b, none⟩
attribute [go_sem] a80
theorem a80_ok : cFun Go.Proofs.Try.prog (hintL [(1, 1), (6, 1)]) (fun _ => ⟨[], [], []⟩) none Go.Proofs.Try.f80 = some a80 := by kernel_rfl
theorem a80_body : okBody Go.Proofs.Try.prog 80 = true := by kernel_rfl
def a81_l0b : ACode :=
 (.seq
 (.ops [
 ⟨(some 25), none, .bin .lss (t 24) (c (i64 6))⟩])
 (.seq
 (.cond (t 25)
 .skip
 (.exit 2))
 (.seq
 (.block 3 (.seq
 (.ops [
 ⟨(some 26), none, .move (t 24)⟩,
 ⟨(some 7), none, .move (t 26)⟩])
 (.seq
 (.ops [
 ⟨(some 27), none, .move (t 3)⟩,
 ⟨(some 28), none, .move (t 7)⟩,
 ⟨(some 29), none, .bin .shl (c (i64 1)) (t 28)⟩,
 ⟨(some 30), none, .bin .andNot (t 27) (t 29)⟩,
 ⟨(some 8), none, .move (t 30)⟩])
 (.seq
 (.ops [
 ⟨(some 31), none, .move (t 8)⟩,
 ⟨(some 32), none, .move (t 3)⟩,
 ⟨(some 33), none, .bin .neq (t 31) (t 32)⟩,
 ⟨(some 34), none, .move (t 33)⟩,
 ⟨(some 35), some (34, true), .move (t 0)⟩,
 ⟨(some 36), some (34, true), .move (t 8)⟩,
 ⟨(some 37), some (34, true), .call 112 [(t 35), (t 36)]⟩,
 ⟨(some 38), some (34, true), .move (t 6)⟩,
 ⟨(some 39), some (34, true), .bin .eql (t 37) (t 38)⟩,
 ⟨(some 40), none, .pick (t 34) (t 39) (c (.bool false))⟩])
 (.cond (t 40)
 (.seq
 (.ops [
 ⟨(some 41), none, .move (t 4)⟩,
 ⟨(some 42), none, .move (t 7)⟩,
 ⟨(some 43), none, .bin .shl (c (i64 1)) (t 42)⟩,
 ⟨(some 44), none, .bin .or (t 41) (t 43)⟩,
 ⟨(some 45), none, .move (t 8)⟩,
 ⟨(some 4), none, .move (t 44)⟩,
 ⟨(some 3), none, .move (t 45)⟩])
 (.exit 2))
 .skip)))))
 (.ops [
 ⟨(some 46), none, .bin .add (t 24) (c (i64 1))⟩,
 ⟨(some 24), none, .move (t 46)⟩]))))
attribute [go_sem] a81_l0b
def a81_l0 : ACode := a81_l0b
@[go_sem] theorem a81_l0_ev (H : Han) (fr : List AVal) (s : St) : evalCode H a81_l0 fr s = evalCode H a81_l0b fr s := (rfl)
def a81_l1b : ACode :=
 (.seq
 (.seq
 (.ops [
 ⟨(some 11), none, .move (t 3)⟩,
 ⟨(some 12), none, .bin .gtr (t 11) (c (i64 0))⟩])
 (.cond (t 12)
 .skip
 (.exit 0)))
 (.block 1 (.seq
 (.ops [
 ⟨(some 13), none, .move (t 0)⟩,
 ⟨(some 14), none, .move (t 3)⟩,
 ⟨(some 15), none, .call 111 [(t 13), (t 14)]⟩,
 ⟨(some 5), none, .alloc [(i64 0), (i64 0)]⟩,
 ⟨none, none, .store 2 (t 5) (t 15)⟩])
 (.seq
 (.ops [
 ⟨(some 16), none, .move (t 0)⟩,
 ⟨(some 17), none, .move (t 3)⟩,
 ⟨(some 18), none, .call 112 [(t 16), (t 17)]⟩,
 ⟨(some 6), none, .move (t 18)⟩])
 (.seq
 (.seq
 (.ops [
 ⟨(some 19), none, .fieldAddr 1 (t 5)⟩,
 ⟨(some 20), none, .load1 (t 19)⟩,
 ⟨(some 21), none, .bin .eql (t 20) (c (i64 0))⟩])
 (.cond (t 21)
 (.ops [
 ⟨(some 22), none, .move (t 6)⟩,
 ⟨(some 23), none, .bin .sub (t 22) (c (i64 1))⟩,
 ⟨(some 6), none, .move (t 23)⟩])
 .skip))
 (.seq
 .skip
 (.seq
 (.seq
 (.ops [
 ⟨(some 24), none, .move (c (i64 0))⟩])
 (.block 2 (.loop ⟨[0, 2, 3, 4, 6, 24], [0, 2, 3, 4], []⟩ a81_l0)))
 (.seq
 (.ops [
 ⟨(some 47), none, .move (t 0)⟩,
 ⟨(some 48), none, .move (t 3)⟩,
 ⟨(some 49), none, .call 111 [(t 47), (t 48)]⟩,
 ⟨(some 50), none, .field false 1 1 (t 49)⟩,
 ⟨(some 51), none, .bin .eql (t 50) (c (i64 0))⟩])
 (.cond (t 51)
 (.ops [
 ⟨(some 52), none, .move (t 2)⟩,
 ⟨(some 53), none, .move (t 4)⟩,
 ⟨(some 54), none, .call 113 [(t 53)]⟩,
 ⟨(some 55), none, .buildSl [.sl0] 1 [(0, 1, (t 54))]⟩,
 ⟨(some 56), none, .append 1 24 (t 52) (t 55)⟩,
 ⟨(some 2), none, .move (t 56)⟩,
 ⟨(some 4), none, .move (c (i64 0))⟩])
 .skip)))))))))
attribute [go_sem] a81_l1b
def a81_l1 : ACode := a81_l1b
@[go_sem] theorem a81_l1_ev (H : Han) (fr : List AVal) (s : St) : evalCode H a81_l1 fr s = evalCode H a81_l1b fr s := (rfl)
def a81b : ACode :=
 (.seq
 (.ops [
 ⟨(some 2), none, .move (c .sl0)⟩])
 (.seq
 (.ops [
 ⟨(some 9), none, .move (t 0)⟩,
 ⟨(some 10), none, .call 110 [(t 9)]⟩,
 ⟨(some 3), none, .move (t 10)⟩,
 ⟨(some 4), none, .move (c (i64 0))⟩])
 (.seq
 (.block 0 (.loop ⟨[0, 2, 3, 4], [2], []⟩ a81_l1))
 (.seq
 (.ops [
 ⟨(some 57), none, .move (t 2)⟩,
 ⟨(some 2), none, .move (t 57)⟩])
 .ret))))
attribute [go_sem] a81b
def a81 : AFun := ⟨58, [.tmp 2], a81b, none⟩
attribute [go_sem] a81
theorem a81_ok : cFun Go.Proofs.Try.prog (fun _ => 0) (keepL [(28, ⟨[0, 2, 3, 4], [2], []⟩), (57978, ⟨[0, 2, 3, 4, 6, 24], [0, 2, 3, 4], []⟩)]) none Go.Proofs.Try.f81 = some a81 := by kernel_rfl
theorem a81_body : okBody Go.Proofs.Try.prog 81 = true := by kernel_rfl
def a82b : ACode :=
 (.seq
 (.ops [
 ⟨(some 3), none, .boxI (t 1)⟩,
 ⟨(some 4), none, .move (c (.bool false))⟩])
 (.seq
 (.ops [
 ⟨(some 5), none, .move (t 0)⟩,
 ⟨(some 6), none, .fieldAddr 0 (t 3)⟩,
 ⟨(some 7), none, .load1 (t 6)⟩,
 ⟨(some 8), none, .fieldAddr 1 (t 3)⟩,
 ⟨(some 9), none, .load1 (t 8)⟩,
 ⟨(some 10), none, .call 54 [(t 5), (t 7), (t 9)]⟩,
 ⟨(some 4), none, .move (t 10)⟩])
 .ret))
attribute [go_sem] a82b
def a82 : AFun := ⟨11, [.tmp 4], a82b, (some 1)⟩
attribute [go_sem] a82
theorem a82_ok : cFun Go.Proofs.Try.prog (hintL [(3, 1)]) (fun _ => ⟨[], [], []⟩) (some 1) Go.Proofs.Try.f82 = some a82 := by kernel_rfl
theorem a82_body : okBody Go.Proofs.Try.prog 82 = true := by kernel_rfl
def a83_l0b : ACode :=
 (.seq
 (.seq
 (.ops [
 ⟨(some 12), none, .move (t 9)⟩,
 ⟨(some 13), none, .move (t 8)⟩,
 ⟨(some 14), none, .len (t 13)⟩,
 ⟨(some 15), none, .bin .lss (t 12) (t 14)⟩])
 (.cond (t 15)
 .skip
 (.exit 0)))
 (.seq
 (.block 1 (.dops [
 (⟨(some 18), none, .move (t 7)⟩, 0, 1),
 (⟨(some 19), none, .loadn 3 (t 3)⟩, 0, 0),
 (⟨(some 20), none, .move (t 1)⟩, 0, 0),
 (⟨(some 21), none, .move (t 8)⟩, 0, 0),
 (⟨(some 22), none, .move (t 9)⟩, 0, 0),
 (⟨(some 23), none, .indexSl 1 (t 21) (t 22)⟩, 0, 0),
 (⟨(some 24), none, .load1 (t 23)⟩, 0, 0),
 (⟨(some 25), none, .call 48 [(t 19), (t 20), (t 24)]⟩, 0, 0),
 (⟨(some 26), none, .bin .add (t 18) (t 25)⟩, 1, 1),
 (⟨(some 7), none, .move (t 26)⟩, 1, 1)]))
 (.ops [
 ⟨(some 16), none, .move (t 9)⟩,
 ⟨(some 17), none, .bin .add (t 16) (c (i64 1))⟩,
 ⟨(some 9), none, .move (t 17)⟩])))
attribute [go_sem] a83_l0b
def a83_l0 : ACode := a83_l0b
def a83b : ACode :=
 (.seq
 (.ops [
 ⟨(some 3), none, .boxI (t 0)⟩,
 ⟨(some 6), none, .move (c (i64 0))⟩])
 (.seq
 (.ops [
 ⟨(some 7), none, .move (c (i64 0))⟩])
 (.seq
 (.ops [
 ⟨(some 10), none, .move (t 2)⟩,
 ⟨(some 11), none, .call 61 [(t 10)]⟩,
 ⟨(some 8), none, .move (t 11)⟩])
 (.seq
 (.seq
 (.ops [
 ⟨(some 9), none, .move (c (i64 0))⟩])
 (.block 0 (.loop ⟨[1, 3, 7, 8, 9], [7], []⟩ a83_l0)))
 (.seq
 (.ops [
 ⟨(some 27), none, .move (t 7)⟩,
 ⟨(some 6), none, .move (t 27)⟩])
 .ret)))))
attribute [go_sem] a83b
def a83 : AFun := ⟨28, [.tmp 6], a83b, (some 1)⟩
attribute [go_sem] a83
theorem a83_ok : cFun Go.Proofs.Try.prog (hintL [(3, 1)]) (keepL [(122, ⟨[1, 3, 7, 8, 9], [7], []⟩)]) (some 1) Go.Proofs.Try.f83 = some a83 := by kernel_rfl
theorem a83_body : okBody Go.Proofs.Try.prog 83 = true := by kernel_rfl
def a84b : ACode :=
 (.seq
 (.ops [
 ⟨(some 4), none, .move (c (i64 0))⟩])
 (.seq
 (.ops [
 ⟨(some 6), none, .move (t 0)⟩,
 ⟨(some 7), none, .call 110 [(t 6)]⟩,
 ⟨(some 5), none, .move (t 7)⟩])
 (.seq
 (.ops [
 ⟨(some 8), none, .move (t 5)⟩,
 ⟨(some 9), none, .call 113 [(t 8)]⟩,
 ⟨(some 10), none, .len (t 9)⟩,
 ⟨(some 11), none, .move (t 0)⟩,
 ⟨(some 12), none, .move (t 5)⟩,
 ⟨(some 13), none, .call 112 [(t 11), (t 12)]⟩,
 ⟨(some 14), none, .bin .sub (t 10) (t 13)⟩,
 ⟨(some 4), none, .move (t 14)⟩])
 .ret)))
attribute [go_sem] a84b
def a84 : AFun := ⟨15, [.tmp 4], a84b, none⟩
attribute [go_sem] a84
theorem a84_ok : cFun Go.Proofs.Try.prog (fun _ => 0) (fun _ => ⟨[], [], []⟩) none Go.Proofs.Try.f84 = some a84 := by kernel_rfl
theorem a84_body : okBody Go.Proofs.Try.prog 84 = true := by kernel_rfl
def a85_l0b : ACode :=
 (.block 1 (.seq
 (.ops [
 ⟨(some 9), none, .loadn 3 (t 2)⟩,
 ⟨(some 10), none, .loadn 6 (t 5)⟩,
 ⟨(some 11), none, .load1 (t 3)⟩,
 ⟨(some 12), none, .call 96 [(t 9), (t 10), (t 11)]⟩])
 (.cond (t 12)
 (.seq
 (.ops [
 ⟨none, none, .store 1 (t 4) (c (.bool true))⟩])
 .ret)
 .skip)))
attribute [go_sem] a85_l0b
def a85_l0 : ACode := a85_l0b
@[go_sem] theorem a85_l0_ev (H : Han) (fr : List AVal) (s : St) : evalCode H a85_l0 fr s = evalCode H a85_l0b fr s := (rfl)
def a85b : ACode :=
 (.seq
 (.ops [
 ⟨(some 2), none, .boxI (t 0)⟩,
 ⟨(some 3), none, .boxI (t 1)⟩,
 ⟨(some 4), none, .alloc [(.bool false)]⟩])
 (.seq
 (.seq
 (.ops [
 ⟨(some 6), none, .loadn 3 (t 2)⟩,
 ⟨(some 7), none, .call 106 [(t 6)]⟩])
 (.block 0 (.rangeFunc (t 7) [8]
 (.ops [
 ⟨(some 5), none, .alloc (List.replicate 6 (i64 0))⟩,
 ⟨none, none, .store 6 (t 5) (t 8)⟩])
 a85_l0)))
 (.seq
 (.ops [
 ⟨none, none, .store 1 (t 4) (c (.bool false))⟩])
 .ret)))
attribute [go_sem] a85b
def a85 : AFun := ⟨13, [.cell 4 none], a85b, (some 1)⟩
attribute [go_sem] a85
theorem a85_ok : cFun Go.Proofs.Try.prog (hintL [(2, 1), (3, 1)]) (fun _ => ⟨[], [], []⟩) (some 1) Go.Proofs.Try.f85 = some a85 := by kernel_rfl
theorem a85_body : okBody Go.Proofs.Try.prog 85 = true := by kernel_rfl
def a86_l0b : ACode :=
 (.seq
 (.seq
 (.ops [
 ⟨(some 18), none, .move (t 10)⟩,
 ⟨(some 19), none, .fieldAddr 2 (t 4)⟩,
 ⟨(some 20), none, .load1 (t 19)⟩,
 ⟨(some 21), none, .len (t 20)⟩,
 ⟨(some 22), none, .move (t 2)⟩,
 ⟨(some 23), none, .bin .sub (t 21) (t 22)⟩,
 ⟨(some 24), none, .bin .leq (t 18) (t 23)⟩])
 (.cond (t 24)
 .skip
 (.exit 0)))
 (.seq
 (.block 1 (.seq
 (.dops [
 (⟨(some 27), none, .load1 (t 5)⟩, 0, 2),
 (⟨(some 28), none, .move (t 0)⟩, 0, 0),
 (⟨(some 29), none, .call 87 [(t 28)]⟩, 0, 0),
 (⟨(some 30), none, .move (t 10)⟩, 0, 1),
 (⟨(some 31), none, .buildSl [(i64 0)] 1 [(0, 1, (t 30))]⟩, 0, 1),
 (⟨(some 32), none, .append 1 8 (t 29) (t 31)⟩, 1, 1),
 (⟨(some 33), none, .move (t 10)⟩, 0, 2),
 (⟨(some 34), none, .bin .add (t 33) (c (i64 1))⟩, 0, 2),
 (⟨(some 35), none, .move (t 2)⟩, 0, 2),
 (⟨(some 36), none, .bin .sub (t 35) (c (i64 1))⟩, 0, 2),
 (⟨(some 37), none, .callv (t 27) [(t 32), (t 34), (t 36)]⟩, 2, 2)])
 (.cond (t 37)
 (.seq
 (.ops [
 ⟨(some 9), none, .move (c (.bool true))⟩])
 .ret)
 .skip)))
 (.ops [
 ⟨(some 25), none, .move (t 10)⟩,
 ⟨(some 26), none, .bin .add (t 25) (c (i64 1))⟩,
 ⟨(some 10), none, .move (t 26)⟩])))
attribute [go_sem] a86_l0b
def a86_l0 : ACode := a86_l0b
@[go_sem] theorem a86_l0_ev (H : Han) (fr : List AVal) (s : St) : evalCode H a86_l0 fr s = evalCode H a86_l0b fr s := (rfl)
def a86b : ACode :=
 (.seq
 (.ops [
 ⟨(some 9), none, .move (c (.bool false))⟩])
 (.seq
 (.seq
 (.ops [
 ⟨(some 11), none, .move (t 2)⟩,
 ⟨(some 12), none, .bin .eql (t 11) (c (i64 0))⟩])
 (.cond (t 12)
 (.seq
 (.ops [
 ⟨(some 13), none, .move (t 0)⟩,
 ⟨none, none, .store 1 (t 3) (t 13)⟩])
 (.seq
 (.ops [
 ⟨(some 14), none, .loadn 3 (t 4)⟩,
 ⟨(some 15), none, .move (t 0)⟩,
 ⟨(some 16), none, .call 85 [(t 14), (t 15)]⟩,
 ⟨(some 9), none, .move (t 16)⟩])
 .ret))
 .skip))
 (.seq
 (.seq
 (.ops [
 ⟨(some 17), none, .move (t 1)⟩,
 ⟨(some 10), none, .move (t 17)⟩])
 (.block 0 (.loop ⟨[0, 2, 4, 5, 10], [], [9]⟩ a86_l0)))
 (.seq
 (.ops [
 ⟨(some 9), none, .move (c (.bool false))⟩])
 .ret))))
attribute [go_sem] a86b
def a86 : AFun := ⟨38, [.tmp 9], a86b, none⟩
attribute [go_sem] a86
theorem a86_ok : cFun Go.Proofs.Try.prog (fun _ => 0) (keepL [(58, ⟨[0, 2, 4, 5, 10], [], [9]⟩)]) none Go.Proofs.Try.f86 = some a86 := by kernel_rfl
theorem a86_body : okBody Go.Proofs.Try.prog 86 = true := by kernel_rfl
def a87b : ACode :=
 (.seq
 (.ops [
 ⟨(some 2), none, .move (c .sl0)⟩])
 (.seq
 (.seq
 (.ops [
 ⟨(some 3), none, .move (t 0)⟩,
 ⟨(some 4), none, .eqnil 1 false (t 3) (c .sl0)⟩])
 (.cond (t 4)
 (.seq
 (.ops [
 ⟨(some 2), none, .move (c .sl0)⟩])
 .ret)
 .skip))
 (.seq
 (.ops [
 ⟨(some 5), none, .buildSl [] 0 []⟩,
 ⟨(some 6), none, .move (t 0)⟩,
 ⟨(some 7), none, .append 1 8 (t 5) (t 6)⟩,
 ⟨(some 2), none, .move (t 7)⟩])
 .ret)))
attribute [go_sem] a87b
def a87 : AFun := ⟨8, [.tmp 2], a87b, none⟩
attribute [go_sem] a87
theorem a87_ok : cFun Go.Proofs.Try.prog (fun _ => 0) (fun _ => ⟨[], [], []⟩) none Go.Proofs.Try.f87 = some a87 := by kernel_rfl
theorem a87_body : okBody Go.Proofs.Try.prog 87 = true := by kernel_rfl
def a88_l0b : ACode :=
 (.seq
 (.seq
 (.ops [
 ⟨(some 8), none, .move (t 6)⟩,
 ⟨(some 9), none, .fieldAddr 2 (t 2)⟩,
 ⟨(some 10), none, .load1 (t 9)⟩,
 ⟨(some 11), none, .len (t 10)⟩,
 ⟨(some 12), none, .bin .lss (t 8) (t 11)⟩])
 (.cond (t 12)
 .skip
 (.exit 0)))
 (.seq
 (.block 1 (.seq
 (.ops [
 ⟨(some 15), none, .fieldAddr 2 (t 2)⟩,
 ⟨(some 16), none, .load1 (t 15)⟩,
 ⟨(some 17), none, .move (t 6)⟩,
 ⟨(some 18), none, .indexSl 3 (t 16) (t 17)⟩,
 ⟨(some 19), none, .loadn 3 (t 18)⟩,
 ⟨(some 7), none, .alloc [(i64 0), (i64 0), (i64 0)]⟩,
 ⟨none, none, .store 3 (t 7) (t 19)⟩])
 (.seq
 (.dops [
 (⟨(some 20), none, .loadn 3 (t 2)⟩, 0, 0),
 (⟨(some 21), none, .move (t 1)⟩, 0, 0),
 (⟨(some 22), none, .fieldAddr 0 (t 7)⟩, 0, 0),
 (⟨(some 23), none, .load1 (t 22)⟩, 0, 0),
 (⟨(some 24), none, .call 48 [(t 20), (t 21), (t 23)]⟩, 0, 0),
 (⟨(some 25), none, .fieldAddr 1 (t 7)⟩, 0, 1),
 (⟨(some 26), none, .loadn 2 (t 25)⟩, 0, 1),
 (⟨(some 27), none, .call 82 [(t 24), (t 26)]⟩, 1, 1)])
 (.cond (t 27)
 (.ops [
 ⟨(some 28), none, .move (t 5)⟩,
 ⟨(some 29), none, .move (t 6)⟩,
 ⟨(some 30), none, .conv .u64 (t 29)⟩,
 ⟨(some 31), none, .bin .shl (c (i64 1)) (t 30)⟩,
 ⟨(some 32), none, .bin .or (t 28) (t 31)⟩,
 ⟨(some 5), none, .move (t 32)⟩])
 .skip))))
 (.ops [
 ⟨(some 13), none, .move (t 6)⟩,
 ⟨(some 14), none, .bin .add (t 13) (c (i64 1))⟩,
 ⟨(some 6), none, .move (t 14)⟩])))
attribute [go_sem] a88_l0b
def a88_l0 : ACode := a88_l0b
@[go_sem] theorem a88_l0_ev (H : Han) (fr : List AVal) (s : St) : evalCode H a88_l0 fr s = evalCode H a88_l0b fr s := (rfl)
def a88b : ACode :=
 (.seq
 (.ops [
 ⟨(some 2), none, .boxI (t 0)⟩,
 ⟨(some 4), none, .move (c (i64 0))⟩])
 (.seq
 (.ops [
 ⟨(some 5), none, .move (c (i64 0))⟩])
 (.seq
 (.seq
 (.ops [
 ⟨(some 6), none, .move (c (i64 0))⟩])
 (.block 0 (.loop ⟨[1, 2, 5, 6], [5], []⟩ a88_l0)))
 (.seq
 (.ops [
 ⟨(some 33), none, .move (t 5)⟩,
 ⟨(some 4), none, .move (t 33)⟩])
 .ret))))
attribute [go_sem] a88b
def a88 : AFun := ⟨34, [.tmp 4], a88b, (some 1)⟩
attribute [go_sem] a88
theorem a88_ok : cFun Go.Proofs.Try.prog (hintL [(2, 1)]) (keepL [(58, ⟨[1, 2, 5, 6], [5], []⟩)]) (some 1) Go.Proofs.Try.f88 = some a88 := by kernel_rfl
theorem a88_body : okBody Go.Proofs.Try.prog 88 = true := by kernel_rfl
def a89_l0b : ACode :=
 (.seq
 (.seq
 (.ops [
 ⟨(some 6), none, .move (t 5)⟩,
 ⟨(some 7), none, .move (t 0)⟩,
 ⟨(some 8), none, .len (t 7)⟩,
 ⟨(some 9), none, .bin .lss (t 6) (t 8)⟩])
 (.cond (t 9)
 .skip
 (.exit 0)))
 (.seq
 (.block 1 (.seq
 (.ops [
 ⟨(some 12), none, .move (t 0)⟩,
 ⟨(some 13), none, .move (t 5)⟩,
 ⟨(some 14), none, .indexSl 1 (t 12) (t 13)⟩,
 ⟨(some 15), none, .load1 (t 14)⟩,
 ⟨(some 16), none, .move (t 1)⟩,
 ⟨(some 17), none, .bin .and (t 15) (t 16)⟩,
 ⟨(some 18), none, .move (t 1)⟩,
 ⟨(some 19), none, .bin .eql (t 17) (t 18)⟩])
 (.cond (t 19)
 (.seq
 (.ops [
 ⟨(some 4), none, .move (c (.bool true))⟩])
 .ret)
 .skip)))
 (.ops [
 ⟨(some 10), none, .move (t 5)⟩,
 ⟨(some 11), none, .bin .add (t 10) (c (i64 1))⟩,
 ⟨(some 5), none, .move (t 11)⟩])))
attribute [go_sem] a89_l0b
def a89_l0 : ACode := a89_l0b
@[go_sem] theorem a89_l0_ev (H : Han) (fr : List AVal) (s : St) : evalCode H a89_l0 fr s = evalCode H a89_l0b fr s := (rfl)
def a89b : ACode :=
 (.seq
 (.ops [
 ⟨(some 4), none, .move (c (.bool false))⟩])
 (.seq
 (.seq
 (.ops [
 ⟨(some 5), none, .move (c (i64 0))⟩])
 (.block 0 (.loop ⟨[0, 1, 5], [], [4]⟩ a89_l0)))
 (.seq
 (.ops [
 ⟨(some 4), none, .move (c (.bool false))⟩])
 .ret)))
attribute [go_sem] a89b
def a89 : AFun := ⟨20, [.tmp 4], a89b, (some 1)⟩
attribute [go_sem] a89
theorem a89_ok : cFun Go.Proofs.Try.prog (fun _ => 0) (keepL [(26, ⟨[0, 1, 5], [], [4]⟩)]) (some 1) Go.Proofs.Try.f89 = some a89 := by kernel_rfl
theorem a89_body : okBody Go.Proofs.Try.prog 89 = true := by kernel_rfl
def a90b : ACode :=
 (.seq
 (.ops [
 ⟨(some 1), none, .boxI (t 0)⟩,
 ⟨(some 2), none, .move (c (i64 0))⟩])
 (.seq
 (.ops [
 ⟨(some 3), none, .fieldAddr 1 (t 1)⟩,
 ⟨(some 4), none, .load1 (t 3)⟩,
 ⟨(some 5), none, .fieldAddr 0 (t 1)⟩,
 ⟨(some 6), none, .load1 (t 5)⟩,
 ⟨(some 7), none, .bin .sub (t 4) (t 6)⟩,
 ⟨(some 8), none, .bin .add (t 7) (c (i64 1))⟩,
 ⟨(some 2), none, .move (t 8)⟩])
 .ret))
attribute [go_sem] a90b
def a90 : AFun := ⟨9, [.tmp 2], a90b, (some 1)⟩
attribute [go_sem] a90
theorem a90_ok : cFun Go.Proofs.Try.prog (hintL [(1, 1)]) (fun _ => ⟨[], [], []⟩) (some 1) Go.Proofs.Try.f90 = some a90 := by kernel_rfl
theorem a90_body : okBody Go.Proofs.Try.prog 90 = true := by kernel_rfl
def a91_l0b : ACode :=
 (.block 1 (.seq
 (.ops [
 ⟨(some 15), none, .move (t 1)⟩,
 ⟨(some 16), none, .mkFn (.func 115) [] [(t 5)]⟩,
 ⟨(some 17), none, .call 114 [(t 15), (t 16)]⟩,
 ⟨(some 6), none, .move (t 17)⟩])
 (.seq
 (.ops [
 ⟨(some 18), none, .move (t 1)⟩,
 ⟨(some 19), none, .mkFn (.func 116) [] [(t 5)]⟩,
 ⟨(some 20), none, .call 114 [(t 18), (t 19)]⟩,
 ⟨(some 7), none, .move (t 20)⟩])
 (.seq
 (.seq
 (.ops [
 ⟨(some 21), none, .move (t 6)⟩,
 ⟨(some 22), none, .bin .lss (t 21) (c (i64 0))⟩,
 ⟨(some 23), none, .move (t 22)⟩,
 ⟨(some 24), some (23, false), .move (t 7)⟩,
 ⟨(some 25), some (23, false), .bin .lss (t 24) (c (i64 0))⟩,
 ⟨(some 26), none, .pick (t 23) (c (.bool true)) (t 25)⟩])
 (.cond (t 26)
 (.seq
 (.ops [
 ⟨(some 27), none, .move (t 4)⟩,
 ⟨(some 4), none, .move (t 27)⟩])
 .ret)
 .skip))
 (.seq
 (.dops [
 (⟨(some 28), none, .move (t 1)⟩, 0, 0),
 (⟨(some 29), none, .move (t 6)⟩, 0, 0),
 (⟨(some 30), none, .indexSl 1 (t 28) (t 29)⟩, 0, 0),
 (⟨(some 31), none, .load1 (t 30)⟩, 0, 0),
 (⟨(some 32), none, .move (t 1)⟩, 0, 0),
 (⟨(some 33), none, .move (t 7)⟩, 0, 0),
 (⟨(some 34), none, .indexSl 1 (t 32) (t 33)⟩, 0, 0),
 (⟨(some 35), none, .load1 (t 34)⟩, 0, 0),
 (⟨(some 8), none, .move (t 31)⟩, 0, 0),
 (⟨(some 9), none, .move (t 35)⟩, 0, 0)])
 (.seq
 (.dops [
 (⟨(some 36), none, .move (t 8)⟩, 0, 0),
 (⟨(some 37), none, .indexArr 6 1 (t 5) (t 36)⟩, 0, 0),
 (⟨(some 38), none, .load1 (t 37)⟩, 0, 0),
 (⟨(some 39), none, .un .neg (t 38)⟩, 0, 0),
 (⟨(some 40), none, .move (t 9)⟩, 0, 0),
 (⟨(some 41), none, .indexArr 6 1 (t 5) (t 40)⟩, 0, 0),
 (⟨(some 42), none, .load1 (t 41)⟩, 0, 0),
 (⟨(some 43), none, .buildSl [(i64 0), (i64 0)] 2 [(0, 1, (t 39)), (1, 1, (t 42))]⟩, 0, 0),
 (⟨(some 44), none, .call 101 [(t 43)]⟩, 0, 0),
 (⟨(some 10), none, .move (t 44)⟩, 1, 1)])
 (.seq
 (.ops [
 ⟨(some 45), none, .move (t 8)⟩,
 ⟨(some 46), none, .indexArr 6 1 (t 5) (t 45)⟩,
 ⟨(some 47), none, .load1 (t 46)⟩,
 ⟨(some 48), none, .move (t 10)⟩,
 ⟨(some 49), none, .bin .add (t 47) (t 48)⟩,
 ⟨(some 50), none, .indexArr 6 1 (t 5) (t 45)⟩,
 ⟨none, none, .store 1 (t 50) (t 49)⟩])
 (.seq
 (.ops [
 ⟨(some 51), none, .move (t 9)⟩,
 ⟨(some 52), none, .indexArr 6 1 (t 5) (t 51)⟩,
 ⟨(some 53), none, .load1 (t 52)⟩,
 ⟨(some 54), none, .move (t 10)⟩,
 ⟨(some 55), none, .bin .sub (t 53) (t 54)⟩,
 ⟨(some 56), none, .indexArr 6 1 (t 5) (t 51)⟩,
 ⟨none, none, .store 1 (t 56) (t 55)⟩])
 (.ops [
 ⟨(some 57), none, .move (t 4)⟩,
 ⟨(some 58), none, .move (t 8)⟩,
 ⟨(some 59), none, .move (t 9)⟩,
 ⟨(some 60), none, .move (t 10)⟩,
 ⟨(some 61), none, .build [(i64 0), (i64 0), (i64 0)] [(0, 1, (t 58)), (1, 1, (t 59)), (2, 1, (t 60))]⟩,
 ⟨(some 62), none, .buildSl [(i64 0), (i64 0), (i64 0)] 1 [(0, 3, (t 61))]⟩,
 ⟨(some 63), none, .append 3 24 (t 57) (t 62)⟩,
 ⟨(some 4), none, .move (t 63)⟩])))))))))
attribute [go_sem] a91_l0b
def a91_l0 : ACode := a91_l0b
@[go_sem] theorem a91_l0_ev (H : Han) (fr : List AVal) (s : St) : evalCode H a91_l0 fr s = evalCode H a91_l0b fr s := (rfl)
def a91b : ACode :=
 (.seq
 (.ops [
 ⟨(some 4), none, .move (c .sl0)⟩])
 (.seq
 (.ops [
 ⟨(some 11), none, .move (t 0)⟩,
 ⟨(some 12), none, .nilCheck (t 11)⟩,
 ⟨(some 13), none, .fieldAddr 0 (t 12)⟩,
 ⟨(some 14), none, .loadn 6 (t 13)⟩,
 ⟨(some 5), none, .alloc (List.replicate 6 (i64 0))⟩,
 ⟨none, none, .store 6 (t 5) (t 14)⟩])
 (.block 0 (.loop ⟨[1, 4, 5], [], [4]⟩ a91_l0))))
attribute [go_sem] a91b
def a91 : AFun := ⟨64, [.tmp 4], a91b, (some 3)⟩
attribute [go_sem] a91
theorem a91_ok : cFun Go.Proofs.Try.prog (fun _ => 0) (keepL [(14, ⟨[1, 4, 5], [], [4]⟩)]) (some 3) Go.Proofs.Try.f91 = some a91 := by kernel_rfl
theorem a91_body : okBody Go.Proofs.Try.prog 91 = true := by kernel_rfl
def a92b : ACode :=
 (.seq
 (.ops [
 ⟨(some 3), none, .boxI (t 0)⟩,
 ⟨(some 6), none, .move (c (.bool false))⟩])
 (.seq
 (.ops [
 ⟨(some 7), none, .move (t 1)⟩,
 ⟨(some 8), none, .fieldAddr 0 (t 3)⟩,
 ⟨(some 9), none, .load1 (t 8)⟩,
 ⟨(some 10), none, .bin .sub (t 9) (c (i64 1))⟩,
 ⟨(some 11), none, .call 54 [(t 7), (c (i64 0)), (t 10)]⟩,
 ⟨(some 12), none, .move (t 11)⟩,
 ⟨(some 13), some (12, true), .move (t 2)⟩,
 ⟨(some 14), some (12, true), .fieldAddr 0 (t 3)⟩,
 ⟨(some 15), some (12, true), .load1 (t 14)⟩,
 ⟨(some 16), some (12, true), .bin .sub (t 15) (c (i64 1))⟩,
 ⟨(some 17), some (12, true), .call 54 [(t 13), (c (i64 0)), (t 16)]⟩,
 ⟨(some 18), none, .pick (t 12) (t 17) (c (.bool false))⟩,
 ⟨(some 19), none, .move (t 18)⟩,
 ⟨(some 20), some (19, true), .move (t 1)⟩,
 ⟨(some 21), some (19, true), .move (t 2)⟩,
 ⟨(some 22), some (19, true), .bin .neq (t 20) (t 21)⟩,
 ⟨(some 23), none, .pick (t 19) (t 22) (c (.bool false))⟩,
 ⟨(some 6), none, .move (t 23)⟩])
 .ret))
attribute [go_sem] a92b
def a92 : AFun := ⟨24, [.tmp 6], a92b, (some 1)⟩
attribute [go_sem] a92
theorem a92_ok : cFun Go.Proofs.Try.prog (hintL [(3, 1)]) (fun _ => ⟨[], [], []⟩) (some 1) Go.Proofs.Try.f92 = some a92 := by kernel_rfl
theorem a92_body : okBody Go.Proofs.Try.prog 92 = true := by kernel_rfl
def a93_l0b : ACode :=
 (.seq
 (.seq
 (.ops [
 ⟨(some 11), none, .move (t 5)⟩,
 ⟨(some 12), none, .move (t 0)⟩,
 ⟨(some 13), none, .len (t 12)⟩,
 ⟨(some 14), none, .bin .lss (t 11) (t 13)⟩])
 (.cond (t 14)
 .skip
 (.exit 0)))
 (.seq
 (.block 1 (.seq
 (.dops [
 (⟨(some 17), none, .move (t 0)⟩, 0, 0),
 (⟨(some 18), none, .move (t 5)⟩, 0, 0),
 (⟨(some 19), none, .indexSl 2 (t 17) (t 18)⟩, 0, 0),
 (⟨(some 20), none, .fieldAddr 0 (t 19)⟩, 0, 0),
 (⟨(some 21), none, .load1 (t 20)⟩, 0, 0),
 (⟨(some 22), none, .move (t 1)⟩, 0, 0),
 (⟨(some 23), none, .move (t 5)⟩, 0, 0),
 (⟨(some 24), none, .indexSl 2 (t 22) (t 23)⟩, 0, 0),
 (⟨(some 25), none, .fieldAddr 0 (t 24)⟩, 0, 0),
 (⟨(some 26), none, .load1 (t 25)⟩, 0, 0),
 (⟨(some 27), none, .bin .lss (t 21) (t 26)⟩, 0, 0),
 (⟨(some 28), none, .move (t 27)⟩, 0, 0),
 (⟨(some 29), some (28, false), .move (t 0)⟩, 0, 0),
 (⟨(some 30), some (28, false), .move (t 5)⟩, 0, 0),
 (⟨(some 31), some (28, false), .indexSl 2 (t 29) (t 30)⟩, 0, 0),
 (⟨(some 32), some (28, false), .fieldAddr 1 (t 31)⟩, 0, 0),
 (⟨(some 33), some (28, false), .load1 (t 32)⟩, 0, 0),
 (⟨(some 34), some (28, false), .move (t 1)⟩, 0, 0),
 (⟨(some 35), some (28, false), .move (t 5)⟩, 0, 0),
 (⟨(some 36), some (28, false), .indexSl 2 (t 34) (t 35)⟩, 0, 0),
 (⟨(some 37), some (28, false), .fieldAddr 1 (t 36)⟩, 0, 0),
 (⟨(some 38), some (28, false), .load1 (t 37)⟩, 0, 0),
 (⟨(some 39), some (28, false), .bin .gtr (t 33) (t 38)⟩, 0, 0),
 (⟨(some 40), none, .pick (t 28) (c (.bool true)) (t 39)⟩, 0, 0)])
 (.cond (t 40)
 (.seq
 (.ops [
 ⟨(some 4), none, .move (c (.bool false))⟩])
 .ret)
 .skip)))
 (.ops [
 ⟨(some 15), none, .move (t 5)⟩,
 ⟨(some 16), none, .bin .add (t 15) (c (i64 1))⟩,
 ⟨(some 5), none, .move (t 16)⟩])))
attribute [go_sem] a93_l0b
def a93_l0 : ACode := a93_l0b
def a93b : ACode :=
 (.seq
 (.ops [
 ⟨(some 4), none, .move (c (.bool false))⟩])
 (.seq
 (.seq
 (.ops [
 ⟨(some 6), none, .move (t 0)⟩,
 ⟨(some 7), none, .len (t 6)⟩,
 ⟨(some 8), none, .move (t 1)⟩,
 ⟨(some 9), none, .len (t 8)⟩,
 ⟨(some 10), none, .bin .neq (t 7) (t 9)⟩])
 (.cond (t 10)
 (.seq
 (.ops [
 ⟨(some 4), none, .move (c (.bool false))⟩])
 .ret)
 .skip))
 (.seq
 (.seq
 (.ops [
 ⟨(some 5), none, .move (c (i64 0))⟩])
 (.block 0 (.loop ⟨[0, 1, 5], [], [4]⟩ a93_l0)))
 (.seq
 (.ops [
 ⟨(some 4), none, .move (c (.bool true))⟩])
 .ret))))
attribute [go_sem] a93b
def a93 : AFun := ⟨41, [.tmp 4], a93b, (some 1)⟩
attribute [go_sem] a93
theorem a93_ok : cFun Go.Proofs.Try.prog (fun _ => 0) (keepL [(58, ⟨[0, 1, 5], [], [4]⟩)]) (some 1) Go.Proofs.Try.f93 = some a93 := by kernel_rfl
theorem a93_body : okBody Go.Proofs.Try.prog 93 = true := by kernel_rfl
def a94_l0b : ACode :=
 (.seq
 (.seq
 (.ops [
 ⟨(some 11), none, .move (t 5)⟩,
 ⟨(some 12), none, .move (t 0)⟩,
 ⟨(some 13), none, .len (t 12)⟩,
 ⟨(some 14), none, .bin .lss (t 11) (t 13)⟩])
 (.cond (t 14)
 .skip
 (.exit 0)))
 (.seq
 (.block 1 (.seq
 (.dops [
 (⟨(some 17), none, .move (t 0)⟩, 0, 0),
 (⟨(some 18), none, .move (t 5)⟩, 0, 0),
 (⟨(some 19), none, .indexSl 1 (t 17) (t 18)⟩, 0, 0),
 (⟨(some 20), none, .load1 (t 19)⟩, 0, 0),
 (⟨(some 21), none, .bin .neq (t 20) (c (i64 3))⟩, 0, 0),
 (⟨(some 22), none, .move (t 21)⟩, 0, 0),
 (⟨(some 23), some (22, true), .move (t 0)⟩, 0, 0),
 (⟨(some 24), some (22, true), .move (t 5)⟩, 0, 0),
 (⟨(some 25), some (22, true), .indexSl 1 (t 23) (t 24)⟩, 0, 0),
 (⟨(some 26), some (22, true), .load1 (t 25)⟩, 0, 0),
 (⟨(some 27), some (22, true), .move (t 1)⟩, 0, 0),
 (⟨(some 28), some (22, true), .move (t 5)⟩, 0, 0),
 (⟨(some 29), some (22, true), .indexSl 1 (t 27) (t 28)⟩, 0, 0),
 (⟨(some 30), some (22, true), .load1 (t 29)⟩, 0, 0),
 (⟨(some 31), some (22, true), .bin .neq (t 26) (t 30)⟩, 0, 0),
 (⟨(some 32), none, .pick (t 22) (t 31) (c (.bool false))⟩, 0, 0)])
 (.cond (t 32)
 (.seq
 (.ops [
 ⟨(some 4), none, .move (c (.bool false))⟩])
 .ret)
 .skip)))
 (.ops [
 ⟨(some 15), none, .move (t 5)⟩,
 ⟨(some 16), none, .bin .add (t 15) (c (i64 1))⟩,
 ⟨(some 5), none, .move (t 16)⟩])))
attribute [go_sem] a94_l0b
def a94_l0 : ACode := a94_l0b
def a94b : ACode :=
 (.seq
 (.ops [
 ⟨(some 4), none, .move (c (.bool false))⟩])
 (.seq
 (.seq
 (.ops [
 ⟨(some 6), none, .move (t 0)⟩,
 ⟨(some 7), none, .len (t 6)⟩,
 ⟨(some 8), none, .move (t 1)⟩,
 ⟨(some 9), none, .len (t 8)⟩,
 ⟨(some 10), none, .bin .neq (t 7) (t 9)⟩])
 (.cond (t 10)
 (.seq
 (.ops [
 ⟨(some 4), none, .move (c (.bool false))⟩])
 .ret)
 .skip))
 (.seq
 (.seq
 (.ops [
 ⟨(some 5), none, .move (c (i64 0))⟩])
 (.block 0 (.loop ⟨[0, 1, 5], [], [4]⟩ a94_l0)))
 (.seq
 (.ops [
 ⟨(some 4), none, .move (c (.bool true))⟩])
 .ret))))
attribute [go_sem] a94b
def a94 : AFun := ⟨33, [.tmp 4], a94b, (some 1)⟩
attribute [go_sem] a94
theorem a94_ok : cFun Go.Proofs.Try.prog (fun _ => 0) (keepL [(58, ⟨[0, 1, 5], [], [4]⟩)]) (some 1) Go.Proofs.Try.f94 = some a94 := by kernel_rfl
theorem a94_body : okBody Go.Proofs.Try.prog 94 = true := by kernel_rfl
def a95_l0b : ACode :=
 (.seq
 (.seq
 (.ops [
 ⟨(some 6), none, .move (t 5)⟩,
 ⟨(some 7), none, .move (t 0)⟩,
 ⟨(some 8), none, .len (t 7)⟩,
 ⟨(some 9), none, .bin .lss (t 6) (t 8)⟩,
 ⟨(some 10), none, .move (t 9)⟩,
 ⟨(some 11), some (10, true), .move (t 5)⟩,
 ⟨(some 12), some (10, true), .move (t 1)⟩,
 ⟨(some 13), some (10, true), .len (t 12)⟩,
 ⟨(some 14), some (10, true), .bin .lss (t 11) (t 13)⟩,
 ⟨(some 15), none, .pick (t 10) (t 14) (c (.bool false))⟩])
 (.cond (t 15)
 .skip
 (.exit 0)))
 (.seq
 (.block 1 (.seq
 (.dops [
 (⟨(some 18), none, .move (t 0)⟩, 0, 0),
 (⟨(some 19), none, .move (t 5)⟩, 0, 0),
 (⟨(some 20), none, .indexSl 1 (t 18) (t 19)⟩, 0, 0),
 (⟨(some 21), none, .load1 (t 20)⟩, 0, 0),
 (⟨(some 22), none, .move (t 1)⟩, 0, 0),
 (⟨(some 23), none, .move (t 5)⟩, 0, 0),
 (⟨(some 24), none, .indexSl 1 (t 22) (t 23)⟩, 0, 0),
 (⟨(some 25), none, .load1 (t 24)⟩, 0, 0),
 (⟨(some 26), none, .bin .neq (t 21) (t 25)⟩, 0, 0)])
 (.cond (t 26)
 (.seq
 (.dops [
 (⟨(some 27), none, .move (t 0)⟩, 0, 0),
 (⟨(some 28), none, .move (t 5)⟩, 0, 0),
 (⟨(some 29), none, .indexSl 1 (t 27) (t 28)⟩, 0, 0),
 (⟨(some 30), none, .load1 (t 29)⟩, 0, 0),
 (⟨(some 31), none, .move (t 1)⟩, 0, 0),
 (⟨(some 32), none, .move (t 5)⟩, 0, 0),
 (⟨(some 33), none, .indexSl 1 (t 31) (t 32)⟩, 0, 0),
 (⟨(some 34), none, .load1 (t 33)⟩, 0, 0),
 (⟨(some 35), none, .bin .lss (t 30) (t 34)⟩, 0, 0),
 (⟨(some 4), none, .move (t 35)⟩, 0, 0)])
 .ret)
 .skip)))
 (.ops [
 ⟨(some 16), none, .move (t 5)⟩,
 ⟨(some 17), none, .bin .add (t 16) (c (i64 1))⟩,
 ⟨(some 5), none, .move (t 17)⟩])))
attribute [go_sem] a95_l0b
def a95_l0 : ACode := a95_l0b
@[go_sem] theorem a95_l0_ev (H : Han) (fr : List AVal) (s : St) : evalCode H a95_l0 fr s = evalCode H a95_l0b fr s := (rfl)
def a95b : ACode :=
 (.seq
 (.ops [
 ⟨(some 4), none, .move (c (.bool false))⟩])
 (.seq
 (.seq
 (.ops [
 ⟨(some 5), none, .move (c (i64 0))⟩])
 (.block 0 (.loop ⟨[0, 1, 5], [0, 1], [4]⟩ a95_l0)))
 (.seq
 (.ops [
 ⟨(some 36), none, .move (t 0)⟩,
 ⟨(some 37), none, .len (t 36)⟩,
 ⟨(some 38), none, .move (t 1)⟩,
 ⟨(some 39), none, .len (t 38)⟩,
 ⟨(some 40), none, .bin .lss (t 37) (t 39)⟩,
 ⟨(some 4), none, .move (t 40)⟩])
 .ret)))
attribute [go_sem] a95b
def a95 : AFun := ⟨41, [.tmp 4], a95b, (some 1)⟩
attribute [go_sem] a95
theorem a95_ok : cFun Go.Proofs.Try.prog (fun _ => 0) (keepL [(26, ⟨[0, 1, 5], [0, 1], [4]⟩)]) (some 1) Go.Proofs.Try.f95 = some a95 := by kernel_rfl
theorem a95_body : okBody Go.Proofs.Try.prog 95 = true := by kernel_rfl
def a96_l0b : ACode :=
 (.seq
 (.ops [
 ⟨(some 13), none, .bin .lss (t 12) (t 11)⟩])
 (.seq
 (.cond (t 13)
 .skip
 (.exit 0))
 (.seq
 (.block 1 (.seq
 (.ops [
 ⟨(some 14), none, .move (t 12)⟩,
 ⟨(some 15), none, .indexSl 3 (t 10) (t 12)⟩,
 ⟨(some 16), none, .loadn 3 (t 15)⟩,
 ⟨(some 8), none, .alloc [(i64 0), (i64 0), (i64 0)]⟩,
 ⟨(some 7), none, .move (t 14)⟩,
 ⟨none, none, .store 3 (t 8) (t 16)⟩])
 (.seq
 (.dops [
 (⟨(some 17), none, .move (t 2)⟩, 0, 0),
 (⟨(some 18), none, .move (t 7)⟩, 0, 0),
 (⟨(some 19), none, .call 117 [(t 17), (t 18)]⟩, 0, 0),
 (⟨(some 20), none, .un .not (t 19)⟩, 1, 1),
 (⟨(some 21), none, .move (t 20)⟩, 1, 1),
 (⟨(some 22), some (21, true), .fieldAddr 1 (t 8)⟩, 1, 1),
 (⟨(some 23), some (21, true), .loadn 2 (t 22)⟩, 1, 1),
 (⟨(some 24), some (21, true), .fieldAddr 0 (t 8)⟩, 1, 1),
 (⟨(some 25), some (21, true), .load1 (t 24)⟩, 1, 1),
 (⟨(some 26), some (21, true), .indexArr 6 1 (t 4) (t 25)⟩, 1, 1),
 (⟨(some 27), some (21, true), .load1 (t 26)⟩, 1, 1),
 (⟨(some 28), some (21, true), .call 118 [(t 23), (t 27)]⟩, 1, 1),
 (⟨(some 29), some (21, true), .un .not (t 28)⟩, 2, 2),
 (⟨(some 30), none, .pick (t 21) (t 29) (c (.bool false))⟩, 2, 2)])
 (.cond (t 30)
 (.seq
 (.ops [
 ⟨(some 6), none, .move (c (.bool false))⟩])
 .ret)
 .skip))))
 (.ops [
 ⟨(some 31), none, .bin .add (t 12) (c (i64 1))⟩,
 ⟨(some 12), none, .move (t 31)⟩]))))
attribute [go_sem] a96_l0b
def a96_l0 : ACode := a96_l0b
@[go_sem] theorem a96_l0_ev (H : Han) (fr : List AVal) (s : St) : evalCode H a96_l0 fr s = evalCode H a96_l0b fr s := (rfl)
def a96b : ACode :=
 (.seq
 (.ops [
 ⟨(some 3), none, .boxI (t 0)⟩,
 ⟨(some 4), none, .boxI (t 1)⟩,
 ⟨(some 6), none, .move (c (.bool false))⟩])
 (.seq
 (.seq
 (.ops [
 ⟨(some 9), none, .fieldAddr 2 (t 3)⟩,
 ⟨(some 10), none, .load1 (t 9)⟩,
 ⟨(some 11), none, .len (t 10)⟩,
 ⟨(some 12), none, .move (c (i64 0))⟩])
 (.block 0 (.loop ⟨[2, 4, 10, 11, 12], [], [6]⟩ a96_l0)))
 (.seq
 (.ops [
 ⟨(some 6), none, .move (c (.bool true))⟩])
 .ret)))
attribute [go_sem] a96b
def a96 : AFun := ⟨32, [.tmp 6], a96b, (some 1)⟩
attribute [go_sem] a96
theorem a96_ok : cFun Go.Proofs.Try.prog (hintL [(3, 1), (4, 1)]) (keepL [(26, ⟨[2, 4, 10, 11, 12], [], [6]⟩)]) (some 1) Go.Proofs.Try.f96 = some a96 := by kernel_rfl
theorem a96_body : okBody Go.Proofs.Try.prog 96 = true := by kernel_rfl
def a97b : ACode :=
 (.seq
 (.ops [
 ⟨(some 2), none, .boxI (t 0)⟩,
 ⟨(some 3), none, .boxI (t 1)⟩,
 ⟨(some 4), none, .move (c (.bool false))⟩])
 (.seq
 (.ops [
 ⟨(some 5), none, .loadn 3 (t 2)⟩,
 ⟨(some 6), none, .fieldAddr 0 (t 3)⟩,
 ⟨(some 7), none, .load1 (t 6)⟩,
 ⟨(some 8), none, .fieldAddr 1 (t 3)⟩,
 ⟨(some 9), none, .load1 (t 8)⟩,
 ⟨(some 10), none, .call 119 [(t 5), (t 7), (t 9)]⟩,
 ⟨(some 11), none, .move (t 10)⟩,
 ⟨(some 12), some (11, true), .fieldAddr 2 (t 3)⟩,
 ⟨(some 13), some (11, true), .loadn 2 (t 12)⟩,
 ⟨(some 14), some (11, true), .call 120 [(t 13), (c (i64 0)), (c (i64 40))]⟩,
 ⟨(some 15), none, .pick (t 11) (t 14) (c (.bool false))⟩,
 ⟨(some 4), none, .move (t 15)⟩])
 .ret))
attribute [go_sem] a97b
def a97 : AFun := ⟨16, [.tmp 4], a97b, (some 1)⟩
attribute [go_sem] a97
theorem a97_ok : cFun Go.Proofs.Try.prog (hintL [(2, 1), (3, 1)]) (fun _ => ⟨[], [], []⟩) (some 1) Go.Proofs.Try.f97 = some a97 := by kernel_rfl
theorem a97_body : okBody Go.Proofs.Try.prog 97 = true := by kernel_rfl
def a98b : ACode :=
 (.seq
 (.ops [
 ⟨(some 2), none, .boxI (t 0)⟩,
 ⟨(some 3), none, .boxI (t 1)⟩,
 ⟨(some 4), none, .move (c (.bool false))⟩])
 (.seq
 (.ops [
 ⟨(some 5), none, .loadn 3 (t 2)⟩,
 ⟨(some 6), none, .fieldAddr 0 (t 3)⟩,
 ⟨(some 7), none, .load1 (t 6)⟩,
 ⟨(some 8), none, .call 121 [(t 5), (t 7)]⟩,
 ⟨(some 9), none, .move (t 8)⟩,
 ⟨(some 10), some (9, true), .fieldAddr 1 (t 3)⟩,
 ⟨(some 11), some (9, true), .loadn 2 (t 10)⟩,
 ⟨(some 12), some (9, true), .call 120 [(t 11), (c (i64 (-240))), (c (i64 240))]⟩,
 ⟨(some 13), none, .pick (t 9) (t 12) (c (.bool false))⟩,
 ⟨(some 4), none, .move (t 13)⟩])
 .ret))
attribute [go_sem] a98b
def a98 : AFun := ⟨14, [.tmp 4], a98b, (some 1)⟩
attribute [go_sem] a98
theorem a98_ok : cFun Go.Proofs.Try.prog (hintL [(2, 1), (3, 1)]) (fun _ => ⟨[], [], []⟩) (some 1) Go.Proofs.Try.f98 = some a98 := by kernel_rfl
theorem a98_body : okBody Go.Proofs.Try.prog 98 = true := by kernel_rfl
def a99b : ACode :=
 (.seq
 (.ops [
 ⟨(some 3), none, .boxI (t 1)⟩,
 ⟨(some 4), none, .move (c (.bool false))⟩])
 (.seq
 (.ops [
 ⟨(some 5), none, .move (t 0)⟩,
 ⟨(some 6), none, .mkFn (.func 123) [] [(t 3)]⟩,
 ⟨(some 7), none, .call 122 [(t 5), (t 6)]⟩,
 ⟨(some 8), none, .un .not (t 7)⟩,
 ⟨(some 4), none, .move (t 8)⟩])
 .ret))
attribute [go_sem] a99b
def a99 : AFun := ⟨9, [.tmp 4], a99b, (some 1)⟩
attribute [go_sem] a99
theorem a99_ok : cFun Go.Proofs.Try.prog (hintL [(3, 1)]) (fun _ => ⟨[], [], []⟩) (some 1) Go.Proofs.Try.f99 = some a99 := by kernel_rfl
theorem a99_body : okBody Go.Proofs.Try.prog 99 = true := by kernel_rfl
def a100b : ACode :=
 (.seq
 (.ops [
 ⟨(some 3), none, .boxI (t 1)⟩,
 ⟨(some 4), none, .move (c (.bool false))⟩])
 (.seq
 (.ops [
 ⟨(some 5), none, .move (t 0)⟩,
 ⟨(some 6), none, .mkFn (.func 125) [] [(t 3)]⟩,
 ⟨(some 7), none, .call 124 [(t 5), (t 6)]⟩,
 ⟨(some 8), none, .un .not (t 7)⟩,
 ⟨(some 4), none, .move (t 8)⟩])
 .ret))
attribute [go_sem] a100b
def a100 : AFun := ⟨9, [.tmp 4], a100b, (some 1)⟩
attribute [go_sem] a100
theorem a100_ok : cFun Go.Proofs.Try.prog (hintL [(3, 1)]) (fun _ => ⟨[], [], []⟩) (some 1) Go.Proofs.Try.f100 = some a100 := by kernel_rfl
theorem a100_body : okBody Go.Proofs.Try.prog 100 = true := by kernel_rfl
def a101b : ACode :=
 (.seq
 (.ops [
 ⟨(some 2), none, .move (c (i64 0))⟩])
 (.seq
 (.ops [
 ⟨(some 3), none, .move (t 0)⟩,
 ⟨(some 4), none, .call 126 [(t 3)]⟩,
 ⟨(some 2), none, .move (t 4)⟩])
 .ret))
attribute [go_sem] a101b
def a101 : AFun := ⟨5, [.tmp 2], a101b, (some 1)⟩
attribute [go_sem] a101
theorem a101_ok : cFun Go.Proofs.Try.prog (fun _ => 0) (fun _ => ⟨[], [], []⟩) (some 1) Go.Proofs.Try.f101 = some a101 := by kernel_rfl
theorem a101_body : okBody Go.Proofs.Try.prog 101 = true := by kernel_rfl
def a102b : ACode :=
 (.seq
 (.ops [
 ⟨(some 1), none, .boxI (t 0)⟩,
 ⟨(some 2), none, .move (c (i64 0))⟩])
 (.seq
 (.ops [
 ⟨(some 3), none, .fieldAddr 1 (t 1)⟩,
 ⟨(some 4), none, .load1 (t 3)⟩,
 ⟨(some 5), none, .fieldAddr 0 (t 1)⟩,
 ⟨(some 6), none, .load1 (t 5)⟩,
 ⟨(some 7), none, .bin .sub (t 4) (t 6)⟩,
 ⟨(some 8), none, .bin .add (t 7) (c (i64 1))⟩,
 ⟨(some 2), none, .move (t 8)⟩])
 .ret))
attribute [go_sem] a102b
def a102 : AFun := ⟨9, [.tmp 2], a102b, (some 1)⟩
attribute [go_sem] a102
theorem a102_ok : cFun Go.Proofs.Try.prog (hintL [(1, 1)]) (fun _ => ⟨[], [], []⟩) (some 1) Go.Proofs.Try.f102 = some a102 := by kernel_rfl
theorem a102_body : okBody Go.Proofs.Try.prog 102 = true := by kernel_rfl
def a103b : ACode :=
 (.seq
 (.ops [
 ⟨(some 4), none, .move (c (i64 0))⟩])
 (.seq
 (.seq
 (.ops [
 ⟨(some 5), none, .move (t 0)⟩,
 ⟨(some 6), none, .len (t 5)⟩,
 ⟨(some 7), none, .bin .eql (t 6) (c (i64 0))⟩])
 (.cond (t 7)
 (.seq
 (.ops [
 ⟨(some 4), none, .move (c (i64 0))⟩])
 .ret)
 .skip))
 (.seq
 (.ops [
 ⟨(some 8), none, .move (t 0)⟩,
 ⟨(some 9), none, .move (t 1)⟩,
 ⟨(some 10), none, .move (t 0)⟩,
 ⟨(some 11), none, .len (t 10)⟩,
 ⟨(some 12), none, .bin .rem (t 9) (t 11)⟩,
 ⟨(some 13), none, .indexSl 1 (t 8) (t 12)⟩,
 ⟨(some 14), none, .load1 (t 13)⟩,
 ⟨(some 15), none, .conv .i64 (t 14)⟩,
 ⟨(some 4), none, .move (t 15)⟩])
 .ret)))
attribute [go_sem] a103b
def a103 : AFun := ⟨16, [.tmp 4], a103b, (some 1)⟩
attribute [go_sem] a103
theorem a103_ok : cFun Go.Proofs.Try.prog (fun _ => 0) (fun _ => ⟨[], [], []⟩) (some 1) Go.Proofs.Try.f103 = some a103 := by kernel_rfl
theorem a103_body : okBody Go.Proofs.Try.prog 103 = true := by kernel_rfl
def a104b : ACode :=
 (.seq
 (.ops [
 ⟨(some 3), none, .boxI (t 1)⟩,
 ⟨(some 4), none, .move (c (.bool false))⟩])
 (.seq
 (.ops [
 ⟨(some 5), none, .move (t 0)⟩,
 ⟨(some 6), none, .mkFn (.func 128) [] [(t 3)]⟩,
 ⟨(some 7), none, .call 127 [(t 5), (t 6)]⟩,
 ⟨(some 8), none, .un .not (t 7)⟩,
 ⟨(some 4), none, .move (t 8)⟩])
 .ret))
attribute [go_sem] a104b
def a104 : AFun := ⟨9, [.tmp 4], a104b, (some 1)⟩
attribute [go_sem] a104
theorem a104_ok : cFun Go.Proofs.Try.prog (hintL [(3, 1)]) (fun _ => ⟨[], [], []⟩) (some 1) Go.Proofs.Try.f104 = some a104 := by kernel_rfl
theorem a104_body : okBody Go.Proofs.Try.prog 104 = true := by kernel_rfl
def a105b : ACode :=
 (.seq
 (.ops [
 ⟨(some 2), none, .boxI (t 0)⟩,
 ⟨(some 3), none, .boxI (t 1)⟩,
 ⟨(some 4), none, .move (c (.bool false))⟩])
 (.seq
 (.ops [
 ⟨(some 5), none, .loadn 3 (t 2)⟩,
 ⟨(some 6), none, .fieldAddr 0 (t 3)⟩,
 ⟨(some 7), none, .load1 (t 6)⟩,
 ⟨(some 8), none, .fieldAddr 1 (t 3)⟩,
 ⟨(some 9), none, .load1 (t 8)⟩,
 ⟨(some 10), none, .call 119 [(t 5), (t 7), (t 9)]⟩,
 ⟨(some 11), none, .move (t 10)⟩,
 ⟨(some 12), some (11, true), .fieldAddr 2 (t 3)⟩,
 ⟨(some 13), some (11, true), .load1 (t 12)⟩,
 ⟨(some 14), some (11, true), .call 129 [(t 13), (c (i64 1)), (c (i64 240))]⟩,
 ⟨(some 15), none, .pick (t 11) (t 14) (c (.bool false))⟩,
 ⟨(some 4), none, .move (t 15)⟩])
 .ret))
attribute [go_sem] a105b
def a105 : AFun := ⟨16, [.tmp 4], a105b, (some 1)⟩
attribute [go_sem] a105
theorem a105_ok : cFun Go.Proofs.Try.prog (hintL [(2, 1), (3, 1)]) (fun _ => ⟨[], [], []⟩) (some 1) Go.Proofs.Try.f105 = some a105 := by kernel_rfl
theorem a105_body : okBody Go.Proofs.Try.prog 105 = true := by kernel_rfl
def a106b : ACode :=
 (.seq
 (.ops [
 ⟨(some 1), none, .boxI (t 0)⟩,
 ⟨(some 2), none, .move (c .nilf)⟩])
 (.seq
 (.ops [
 ⟨(some 3), none, .mkFn (.func 130) [] [(t 1)]⟩,
 ⟨(some 2), none, .move (t 3)⟩])
 .ret))
attribute [go_sem] a106b
def a106 : AFun := ⟨4, [.tmp 2], a106b, none⟩
attribute [go_sem] a106
theorem a106_ok : cFun Go.Proofs.Try.prog (hintL [(1, 1)]) (fun _ => ⟨[], [], []⟩) none Go.Proofs.Try.f106 = some a106 := by kernel_rfl
theorem a106_body : okBody Go.Proofs.Try.prog 106 = true := by kernel_rfl
def a107b : ACode :=
 (.seq
 (.ops [
 ⟨(some 2), none, .boxI (t 0)⟩,
 ⟨(some 4), none, .alloc [(i64 0), (i64 0)]⟩])
 (.seq
 (.dops [
 (⟨(some 5), none, .fieldAddr 0 (t 2)⟩, 0, 0),
 (⟨(some 6), none, .load1 (t 5)⟩, 0, 0),
 (⟨(some 7), none, .move (t 1)⟩, 0, 0),
 (⟨(some 8), none, .buildSl [(i64 0), (i64 0)] 2 [(0, 1, (t 6)), (1, 1, (t 7))]⟩, 0, 0),
 (⟨(some 9), none, .call 101 [(t 8)]⟩, 0, 0),
 (⟨(some 10), none, .fieldAddr 1 (t 2)⟩, 0, 1),
 (⟨(some 11), none, .load1 (t 10)⟩, 0, 1),
 (⟨(some 12), none, .move (t 1)⟩, 0, 1),
 (⟨(some 13), none, .maxmin true [(t 11), (t 12)]⟩, 0, 1),
 (⟨(some 14), none, .build [(i64 0), (i64 0)] [(0, 1, (t 9)), (1, 1, (t 13))]⟩, 1, 1),
 (⟨none, none, .store 2 (t 4) (t 14)⟩, 1, 1)])
 .ret))
attribute [go_sem] a107b
def a107 : AFun := ⟨15, [.cell 4 (some 2)], a107b, (some 1)⟩
attribute [go_sem] a107
theorem a107_ok : cFun Go.Proofs.Try.prog (hintL [(2, 1)]) (fun _ => ⟨[], [], []⟩) (some 1) Go.Proofs.Try.f107 = some a107 := by kernel_rfl
theorem a107_body : okBody Go.Proofs.Try.prog 107 = true := by kernel_rfl
def a108_l0b : ACode :=
 (.seq
 (.ops [
 ⟨(some 16), none, .bin .lss (t 15) (t 14)⟩])
 (.seq
 (.cond (t 16)
 .skip
 (.exit 0))
 (.seq
 (.block 1 (.seq
 (.ops [
 ⟨(some 17), none, .move (t 15)⟩,
 ⟨(some 18), none, .indexSl 1 (t 13) (t 15)⟩,
 ⟨(some 19), none, .load1 (t 18)⟩,
 ⟨(some 5), none, .move (t 17)⟩,
 ⟨(some 6), none, .move (t 19)⟩])
 (.seq
 (.ops [
 ⟨(some 20), none, .fieldAddr 1 (t 2)⟩,
 ⟨(some 21), none, .load1 (t 20)⟩,
 ⟨(some 22), none, .move (t 5)⟩,
 ⟨(some 23), none, .indexSl 4 (t 21) (t 22)⟩,
 ⟨(some 24), none, .fieldAddr 2 (t 23)⟩,
 ⟨(some 25), none, .loadn 2 (t 24)⟩,
 ⟨(some 26), none, .move (t 6)⟩,
 ⟨(some 27), none, .call 118 [(t 25), (t 26)]⟩,
 ⟨(some 28), none, .un .not (t 27)⟩])
 (.cond (t 28)
 (.seq
 (.ops [
 ⟨(some 4), none, .move (c (.bool false))⟩])
 .ret)
 .skip))))
 (.ops [
 ⟨(some 29), none, .bin .add (t 15) (c (i64 1))⟩,
 ⟨(some 15), none, .move (t 29)⟩]))))
attribute [go_sem] a108_l0b
def a108_l0 : ACode := a108_l0b
@[go_sem] theorem a108_l0_ev (H : Han) (fr : List AVal) (s : St) : evalCode H a108_l0 fr s = evalCode H a108_l0b fr s := (rfl)
def a108b : ACode :=
 (.seq
 (.ops [
 ⟨(some 2), none, .boxI (t 0)⟩,
 ⟨(some 4), none, .move (c (.bool false))⟩])
 (.seq
 (.seq
 (.ops [
 ⟨(some 7), none, .move (t 1)⟩,
 ⟨(some 8), none, .len (t 7)⟩,
 ⟨(some 9), none, .fieldAddr 1 (t 2)⟩,
 ⟨(some 10), none, .load1 (t 9)⟩,
 ⟨(some 11), none, .len (t 10)⟩,
 ⟨(some 12), none, .bin .neq (t 8) (t 11)⟩])
 (.cond (t 12)
 (.seq
 (.ops [
 ⟨(some 4), none, .move (c (.bool false))⟩])
 .ret)
 .skip))
 (.seq
 (.seq
 (.ops [
 ⟨(some 13), none, .move (t 1)⟩,
 ⟨(some 14), none, .len (t 13)⟩,
 ⟨(some 15), none, .move (c (i64 0))⟩])
 (.block 0 (.loop ⟨[2, 13, 14, 15], [], [4]⟩ a108_l0)))
 (.seq
 (.ops [
 ⟨(some 4), none, .move (c (.bool true))⟩])
 .ret))))
attribute [go_sem] a108b
def a108 : AFun := ⟨30, [.tmp 4], a108b, (some 1)⟩
attribute [go_sem] a108
theorem a108_ok : cFun Go.Proofs.Try.prog (hintL [(2, 1)]) (keepL [(58, ⟨[2, 13, 14, 15], [], [4]⟩)]) (some 1) Go.Proofs.Try.f108 = some a108 := by kernel_rfl
theorem a108_body : okBody Go.Proofs.Try.prog 108 = true := by kernel_rfl
def a109_l0b : ACode :=
 (.seq
 (.ops [
 ⟨(some 11), none, .bin .lss (t 10) (t 9)⟩])
 (.seq
 (.cond (t 11)
 .skip
 (.exit 0))
 (.seq
 (.block 1 (.seq
 (.ops [
 ⟨(some 12), none, .move (t 10)⟩,
 ⟨(some 13), none, .indexSl 4 (t 8) (t 10)⟩,
 ⟨(some 14), none, .loadn 4 (t 13)⟩,
 ⟨(some 6), none, .alloc (List.replicate 4 (i64 0))⟩,
 ⟨(some 5), none, .move (t 12)⟩,
 ⟨none, none, .store 4 (t 6) (t 14)⟩])
 (.seq
 (.dops [
 (⟨(some 15), none, .fieldAddr 0 (t 6)⟩, 0, 0),
 (⟨(some 16), none, .load1 (t 15)⟩, 0, 0),
 (⟨(some 17), none, .indexArr 6 1 (t 4) (t 16)⟩, 0, 0),
 (⟨(some 18), none, .load1 (t 17)⟩, 0, 0),
 (⟨(some 19), none, .move (t 1)⟩, 0, 0),
 (⟨(some 20), none, .move (t 5)⟩, 0, 0),
 (⟨(some 21), none, .indexSl 1 (t 19) (t 20)⟩, 0, 0),
 (⟨(some 22), none, .load1 (t 21)⟩, 0, 0),
 (⟨(some 23), none, .bin .add (t 18) (t 22)⟩, 0, 0),
 (⟨(some 24), none, .indexArr 6 1 (t 4) (t 16)⟩, 0, 0),
 (⟨none, none, .store 1 (t 24) (t 23)⟩, 0, 0)])
 (.dops [
 (⟨(some 25), none, .fieldAddr 1 (t 6)⟩, 0, 0),
 (⟨(some 26), none, .load1 (t 25)⟩, 0, 0),
 (⟨(some 27), none, .indexArr 6 1 (t 4) (t 26)⟩, 0, 0),
 (⟨(some 28), none, .load1 (t 27)⟩, 0, 0),
 (⟨(some 29), none, .move (t 1)⟩, 0, 0),
 (⟨(some 30), none, .move (t 5)⟩, 0, 0),
 (⟨(some 31), none, .indexSl 1 (t 29) (t 30)⟩, 0, 0),
 (⟨(some 32), none, .load1 (t 31)⟩, 0, 0),
 (⟨(some 33), none, .bin .sub (t 28) (t 32)⟩, 0, 0),
 (⟨(some 34), none, .indexArr 6 1 (t 4) (t 26)⟩, 0, 0),
 (⟨none, none, .store 1 (t 34) (t 33)⟩, 0, 0)]))))
 (.ops [
 ⟨(some 35), none, .bin .add (t 10) (c (i64 1))⟩,
 ⟨(some 10), none, .move (t 35)⟩]))))
attribute [go_sem] a109_l0b
def a109_l0 : ACode := a109_l0b
@[go_sem] theorem a109_l0_ev (H : Han) (fr : List AVal) (s : St) : evalCode H a109_l0 fr s = evalCode H a109_l0b fr s := (rfl)
def a109b : ACode :=
 (.seq
 (.ops [
 ⟨(some 2), none, .boxI (t 0)⟩,
 ⟨(some 4), none, .alloc (List.replicate 6 (i64 0))⟩])
 (.seq
 (.seq
 (.ops [
 ⟨(some 7), none, .fieldAddr 1 (t 2)⟩,
 ⟨(some 8), none, .load1 (t 7)⟩,
 ⟨(some 9), none, .len (t 8)⟩,
 ⟨(some 10), none, .move (c (i64 0))⟩])
 (.block 0 (.loop ⟨[1, 4, 8, 9, 10], [4], []⟩ a109_l0)))
 (.seq
 (.ops [
 ⟨(some 36), none, .loadn 6 (t 4)⟩,
 ⟨none, none, .store 6 (t 4) (t 36)⟩])
 .ret)))
attribute [go_sem] a109b
def a109 : AFun := ⟨37, [.cell 4 (some 6)], a109b, (some 1)⟩
attribute [go_sem] a109
theorem a109_ok : cFun Go.Proofs.Try.prog (hintL [(2, 1)]) (keepL [(26, ⟨[1, 4, 8, 9, 10], [4], []⟩)]) (some 1) Go.Proofs.Try.f109 = some a109 := by kernel_rfl
theorem a109_body : okBody Go.Proofs.Try.prog 109 = true := by kernel_rfl
def a110_l0b : ACode :=
 (.seq
 (.ops [
 ⟨(some 10), none, .bin .lss (t 9) (c (i64 6))⟩])
 (.seq
 (.cond (t 10)
 .skip
 (.exit 0))
 (.seq
 (.block 1 (.seq
 (.ops [
 ⟨(some 11), none, .move (t 9)⟩,
 ⟨(some 12), none, .index 6 false 1 (t 8) (t 9)⟩,
 ⟨(some 3), none, .move (t 11)⟩,
 ⟨(some 4), none, .move (t 12)⟩])
 (.seq
 (.ops [
 ⟨(some 13), none, .move (t 4)⟩,
 ⟨(some 14), none, .bin .neq (t 13) (c (i64 0))⟩])
 (.cond (t 14)
 (.ops [
 ⟨(some 15), none, .move (t 2)⟩,
 ⟨(some 16), none, .move (t 3)⟩,
 ⟨(some 17), none, .bin .shl (c (i64 1)) (t 16)⟩,
 ⟨(some 18), none, .bin .or (t 15) (t 17)⟩,
 ⟨(some 2), none, .move (t 18)⟩])
 .skip))))
 (.ops [
 ⟨(some 19), none, .bin .add (t 9) (c (i64 1))⟩,
 ⟨(some 9), none, .move (t 19)⟩]))))
attribute [go_sem] a110_l0b
def a110_l0 : ACode := a110_l0b
@[go_sem] theorem a110_l0_ev (H : Han) (fr : List AVal) (s : St) : evalCode H a110_l0 fr s = evalCode H a110_l0b fr s := (rfl)
def a110b : ACode :=
 (.seq
 (.ops [
 ⟨(some 2), none, .move (c (i64 0))⟩])
 (.seq
 (.seq
 (.ops [
 ⟨(some 5), none, .move (t 0)⟩,
 ⟨(some 6), none, .nilCheck (t 5)⟩,
 ⟨(some 7), none, .fieldAddr 0 (t 6)⟩,
 ⟨(some 8), none, .loadn 6 (t 7)⟩,
 ⟨(some 9), none, .move (c (i64 0))⟩])
 (.block 0 (.loop ⟨[2, 8, 9], [2], []⟩ a110_l0)))
 (.seq
 (.ops [
 ⟨(some 20), none, .move (t 2)⟩,
 ⟨(some 2), none, .move (t 20)⟩])
 .ret)))
attribute [go_sem] a110b
def a110 : AFun := ⟨21, [.tmp 2], a110b, (some 1)⟩
attribute [go_sem] a110
theorem a110_ok : cFun Go.Proofs.Try.prog (fun _ => 0) (keepL [(26, ⟨[2, 8, 9], [2], []⟩)]) (some 1) Go.Proofs.Try.f110 = some a110 := by kernel_rfl
theorem a110_body : okBody Go.Proofs.Try.prog 110 = true := by kernel_rfl
def a111_l0b : ACode :=
 (.seq
 (.ops [
 ⟨(some 15), none, .bin .lss (t 14) (c (i64 6))⟩])
 (.seq
 (.cond (t 15)
 .skip
 (.exit 0))
 (.seq
 (.block 1 (.seq
 (.ops [
 ⟨(some 16), none, .move (t 14)⟩,
 ⟨(some 17), none, .index 6 false 1 (t 13) (t 14)⟩,
 ⟨(some 6), none, .move (t 16)⟩,
 ⟨(some 7), none, .move (t 17)⟩])
 (.seq
 (.ops [
 ⟨(some 18), none, .move (t 1)⟩,
 ⟨(some 19), none, .move (t 6)⟩,
 ⟨(some 20), none, .bin .shr (t 18) (t 19)⟩,
 ⟨(some 21), none, .bin .rem (t 20) (c (i64 2))⟩,
 ⟨(some 22), none, .bin .eql (t 21) (c (i64 1))⟩])
 (.cond (t 22)
 (.ops [
 ⟨(some 23), none, .fieldAddr 1 (t 5)⟩,
 ⟨(some 24), none, .load1 (t 23)⟩,
 ⟨(some 25), none, .move (t 7)⟩,
 ⟨(some 26), none, .bin .add (t 24) (t 25)⟩,
 ⟨(some 27), none, .fieldAddr 1 (t 5)⟩,
 ⟨none, none, .store 1 (t 27) (t 26)⟩])
 .skip))))
 (.ops [
 ⟨(some 28), none, .bin .add (t 14) (c (i64 1))⟩,
 ⟨(some 14), none, .move (t 28)⟩]))))
attribute [go_sem] a111_l0b
def a111_l0 : ACode := a111_l0b
@[go_sem] theorem a111_l0_ev (H : Han) (fr : List AVal) (s : St) : evalCode H a111_l0 fr s = evalCode H a111_l0b fr s := (rfl)
def a111b : ACode :=
 (.seq
 (.ops [
 ⟨(some 4), none, .alloc [(i64 0), (i64 0)]⟩])
 (.seq
 (.ops [
 ⟨(some 8), none, .move (t 1)⟩,
 ⟨(some 9), none, .build [(i64 0), (i64 0)] [(0, 1, (t 8)), (1, 1, (c (i64 0)))]⟩,
 ⟨(some 5), none, .alloc [(i64 0), (i64 0)]⟩,
 ⟨none, none, .store 2 (t 5) (t 9)⟩])
 (.seq
 (.seq
 (.ops [
 ⟨(some 10), none, .move (t 0)⟩,
 ⟨(some 11), none, .nilCheck (t 10)⟩,
 ⟨(some 12), none, .fieldAddr 0 (t 11)⟩,
 ⟨(some 13), none, .loadn 6 (t 12)⟩,
 ⟨(some 14), none, .move (c (i64 0))⟩])
 (.block 0 (.loop ⟨[1, 4, 5, 13, 14], [4, 5], []⟩ a111_l0)))
 (.seq
 (.ops [
 ⟨(some 29), none, .loadn 2 (t 5)⟩,
 ⟨none, none, .store 2 (t 4) (t 29)⟩])
 .ret))))
attribute [go_sem] a111b
def a111 : AFun := ⟨30, [.cell 4 (some 2)], a111b, (some 1)⟩
attribute [go_sem] a111
theorem a111_ok : cFun Go.Proofs.Try.prog (fun _ => 0) (keepL [(58, ⟨[1, 4, 5, 13, 14], [4, 5], []⟩)]) (some 1) Go.Proofs.Try.f111 = some a111 := by kernel_rfl
theorem a111_body : okBody Go.Proofs.Try.prog 111 = true := by kernel_rfl
def a112_l0b : ACode :=
 (.seq
 (.ops [
 ⟨(some 26), none, .bin .lss (t 25) (c (i64 6))⟩])
 (.seq
 (.cond (t 26)
 .skip
 (.exit 0))
 (.seq
 (.block 1 (.seq
 (.ops [
 ⟨(some 27), none, .move (t 25)⟩,
 ⟨(some 8), none, .move (t 27)⟩])
 (.seq
 (.ops [
 ⟨(some 28), none, .move (t 1)⟩,
 ⟨(some 29), none, .move (t 8)⟩,
 ⟨(some 30), none, .bin .shr (t 28) (t 29)⟩,
 ⟨(some 31), none, .bin .rem (t 30) (c (i64 2))⟩,
 ⟨(some 32), none, .bin .eql (t 31) (c (i64 1))⟩])
 (.cond (t 32)
 (.ops [
 ⟨(some 33), none, .move (t 6)⟩,
 ⟨(some 34), none, .move (t 0)⟩,
 ⟨(some 35), none, .move (t 1)⟩,
 ⟨(some 36), none, .move (t 8)⟩,
 ⟨(some 37), none, .bin .shl (c (i64 1)) (t 36)⟩,
 ⟨(some 38), none, .bin .andNot (t 35) (t 37)⟩,
 ⟨(some 39), none, .call 112 [(t 34), (t 38)]⟩,
 ⟨(some 40), none, .maxmin true [(t 33), (t 39)]⟩,
 ⟨(some 6), none, .move (t 40)⟩])
 .skip))))
 (.ops [
 ⟨(some 41), none, .bin .add (t 25) (c (i64 1))⟩,
 ⟨(some 25), none, .move (t 41)⟩]))))
attribute [go_sem] a112_l0b
def a112_l0 : ACode := a112_l0b
@[go_sem] theorem a112_l0_ev (H : Han) (fr : List AVal) (s : St) : evalCode H a112_l0 fr s = evalCode H a112_l0b fr s := (rfl)
def a112b : ACode :=
 (.seq
 (.ops [
 ⟨(some 4), none, .move (c (i64 0))⟩])
 (.seq
 (.ops [
 ⟨(some 9), none, .move (t 0)⟩,
 ⟨(some 10), none, .move (t 1)⟩,
 ⟨(some 11), none, .call 111 [(t 9), (t 10)]⟩,
 ⟨(some 5), none, .alloc [(i64 0), (i64 0)]⟩,
 ⟨none, none, .store 2 (t 5) (t 11)⟩])
 (.seq
 (.seq
 (.ops [
 ⟨(some 12), none, .move (t 1)⟩,
 ⟨(some 13), none, .bin .eql (t 12) (c (i64 0))⟩])
 (.cond (t 13)
 (.seq
 (.ops [
 ⟨(some 4), none, .move (c (i64 0))⟩])
 .ret)
 .skip))
 (.seq
 (.dops [
 (⟨(some 15), none, .move (t 0)⟩, 0, 0),
 (⟨(some 16), none, .nilCheck (t 15)⟩, 0, 0),
 (⟨(some 17), none, .fieldAddr 6 (t 16)⟩, 0, 0),
 (⟨(some 18), none, .load1 (t 17)⟩, 0, 0),
 (⟨(some 19), none, .loadn 2 (t 5)⟩, 0, 0),
 (⟨(some 20), none, .lookup true [0, 0] (i64 0) true (t 18) (t 19)⟩, 0, 0),
 (⟨(some 14), none, .move (t 20)⟩, 1, 1),
 (⟨(some 21), none, .extract (t 14) 0⟩, 1, 1),
 (⟨(some 22), none, .extract (t 14) 1⟩, 1, 1),
 (⟨(some 6), none, .move (t 21)⟩, 1, 1),
 (⟨(some 7), none, .move (t 22)⟩, 1, 1)])
 (.seq
 (.seq
 (.ops [
 ⟨(some 23), none, .move (t 7)⟩])
 (.cond (t 23)
 (.seq
 (.ops [
 ⟨(some 24), none, .move (t 6)⟩,
 ⟨(some 4), none, .move (t 24)⟩])
 .ret)
 .skip))
 (.seq
 (.seq
 (.ops [
 ⟨(some 25), none, .move (c (i64 0))⟩])
 (.block 0 (.loop ⟨[0, 1, 5, 6, 25], [0, 5, 6], []⟩ a112_l0)))
 (.seq
 (.seq
 (.ops [
 ⟨(some 42), none, .fieldAddr 1 (t 5)⟩,
 ⟨(some 43), none, .load1 (t 42)⟩,
 ⟨(some 44), none, .bin .eql (t 43) (c (i64 0))⟩])
 (.cond (t 44)
 (.ops [
 ⟨(some 45), none, .move (t 6)⟩,
 ⟨(some 46), none, .bin .add (t 45) (c (i64 1))⟩,
 ⟨(some 6), none, .move (t 46)⟩])
 .skip))
 (.seq
 (.dops [
 (⟨(some 47), none, .move (t 0)⟩, 0, 0),
 (⟨(some 48), none, .nilCheck (t 47)⟩, 0, 0),
 (⟨(some 49), none, .fieldAddr 6 (t 48)⟩, 0, 0),
 (⟨(some 50), none, .load1 (t 49)⟩, 0, 0),
 (⟨(some 51), none, .loadn 2 (t 5)⟩, 0, 0),
 (⟨(some 52), none, .move (t 6)⟩, 0, 0),
 (⟨none, none, .mapUpdate true [0, 0] (t 50) (t 51) (t 52)⟩, 0, 0)])
 (.seq
 (.ops [
 ⟨(some 53), none, .move (t 6)⟩,
 ⟨(some 4), none, .move (t 53)⟩])
 .ret)))))))))
attribute [go_sem] a112b
def a112 : AFun := ⟨54, [.tmp 4], a112b, none⟩
attribute [go_sem] a112
theorem a112_ok : cFun Go.Proofs.Try.prog (fun _ => 0) (keepL [(506, ⟨[0, 1, 5, 6, 25], [0, 5, 6], []⟩)]) none Go.Proofs.Try.f112 = some a112 := by kernel_rfl
theorem a112_body : okBody Go.Proofs.Try.prog 112 = true := by kernel_rfl
def a113_l0b : ACode :=
 (.seq
 (.seq
 (.ops [
 ⟨(some 4), none, .move (t 0)⟩,
 ⟨(some 5), none, .move (t 3)⟩,
 ⟨(some 6), none, .bin .shr (t 4) (t 5)⟩,
 ⟨(some 7), none, .bin .gtr (t 6) (c (i64 0))⟩])
 (.cond (t 7)
 .skip
 (.exit 0)))
 (.seq
 (.block 1 (.seq
 (.ops [
 ⟨(some 10), none, .move (t 0)⟩,
 ⟨(some 11), none, .move (t 3)⟩,
 ⟨(some 12), none, .bin .shr (t 10) (t 11)⟩,
 ⟨(some 13), none, .bin .rem (t 12) (c (i64 2))⟩,
 ⟨(some 14), none, .bin .eql (t 13) (c (i64 1))⟩])
 (.cond (t 14)
 (.ops [
 ⟨(some 15), none, .move (t 2)⟩,
 ⟨(some 16), none, .move (t 3)⟩,
 ⟨(some 17), none, .buildSl [(i64 0)] 1 [(0, 1, (t 16))]⟩,
 ⟨(some 18), none, .append 1 8 (t 15) (t 17)⟩,
 ⟨(some 2), none, .move (t 18)⟩])
 .skip)))
 (.ops [
 ⟨(some 8), none, .move (t 3)⟩,
 ⟨(some 9), none, .bin .add (t 8) (c (i64 1))⟩,
 ⟨(some 3), none, .move (t 9)⟩])))
attribute [go_sem] a113_l0b
def a113_l0 : ACode := a113_l0b
@[go_sem] theorem a113_l0_ev (H : Han) (fr : List AVal) (s : St) : evalCode H a113_l0 fr s = evalCode H a113_l0b fr s := (rfl)
def a113b : ACode :=
 (.seq
 (.ops [
 ⟨(some 2), none, .move (c .sl0)⟩])
 (.seq
 (.seq
 (.ops [
 ⟨(some 3), none, .move (c (i64 0))⟩])
 (.block 0 (.loop ⟨[0, 2, 3], [2], []⟩ a113_l0)))
 (.seq
 (.ops [
 ⟨(some 19), none, .move (t 2)⟩,
 ⟨(some 2), none, .move (t 19)⟩])
 .ret)))
attribute [go_sem] a113b
def a113 : AFun := ⟨20, [.tmp 2], a113b, (some 1)⟩
attribute [go_sem] a113
theorem a113_ok : cFun Go.Proofs.Try.prog (fun _ => 0) (keepL [(26, ⟨[0, 2, 3], [2], []⟩)]) (some 1) Go.Proofs.Try.f113 = some a113 := by kernel_rfl
theorem a113_body : okBody Go.Proofs.Try.prog 113 = true := by kernel_rfl
def a114_l0b : ACode :=
 (.seq
 (.ops [
 ⟨(some 9), none, .bin .lss (t 8) (t 7)⟩])
 (.seq
 (.cond (t 9)
 .skip
 (.exit 0))
 (.seq
 (.block 1 (.seq
 (.ops [
 ⟨(some 10), none, .move (t 8)⟩,
 ⟨(some 5), none, .move (t 10)⟩])
 (.seq
 (.ops [
 ⟨(some 11), none, .move (t 1)⟩,
 ⟨(some 12), none, .move (t 0)⟩,
 ⟨(some 13), none, .move (t 5)⟩,
 ⟨(some 14), none, .indexSl 1 (t 12) (t 13)⟩,
 ⟨(some 15), none, .load1 (t 14)⟩,
 ⟨(some 16), none, .callv (t 11) [(t 15)]⟩])
 (.cond (t 16)
 (.seq
 (.ops [
 ⟨(some 17), none, .move (t 5)⟩,
 ⟨(some 4), none, .move (t 17)⟩])
 .ret)
 .skip))))
 (.ops [
 ⟨(some 18), none, .bin .add (t 8) (c (i64 1))⟩,
 ⟨(some 8), none, .move (t 18)⟩]))))
attribute [go_sem] a114_l0b
def a114_l0 : ACode := a114_l0b
@[go_sem] theorem a114_l0_ev (H : Han) (fr : List AVal) (s : St) : evalCode H a114_l0 fr s = evalCode H a114_l0b fr s := (rfl)
def a114b : ACode :=
 (.seq
 (.ops [
 ⟨(some 4), none, .move (c (i64 0))⟩])
 (.seq
 (.seq
 (.ops [
 ⟨(some 6), none, .move (t 0)⟩,
 ⟨(some 7), none, .len (t 6)⟩,
 ⟨(some 8), none, .move (c (i64 0))⟩])
 (.block 0 (.loop ⟨[0, 1, 7, 8], [], [4]⟩ a114_l0)))
 (.seq
 (.ops [
 ⟨(some 4), none, .move (c (i64 (-1)))⟩])
 .ret)))
attribute [go_sem] a114b
def a114 : AFun := ⟨19, [.tmp 4], a114b, (some 1)⟩
attribute [go_sem] a114
theorem a114_ok : cFun Go.Proofs.Try.prog (fun _ => 0) (keepL [(26, ⟨[0, 1, 7, 8], [], [4]⟩)]) (some 1) Go.Proofs.Try.f114 = some a114 := by kernel_rfl
theorem a114_body : okBody Go.Proofs.Try.prog 114 = true := by kernel_rfl
def a115b : ACode :=
 (.seq
 (.ops [
 ⟨(some 3), none, .move (c (.bool false))⟩])
 (.seq
 (.ops [
 ⟨(some 4), none, .move (t 0)⟩,
 ⟨(some 5), none, .indexArr 6 1 (t 1) (t 4)⟩,
 ⟨(some 6), none, .load1 (t 5)⟩,
 ⟨(some 7), none, .bin .lss (t 6) (c (i64 0))⟩,
 ⟨(some 3), none, .move (t 7)⟩])
 .ret))
attribute [go_sem] a115b
def a115 : AFun := ⟨8, [.tmp 3], a115b, (some 1)⟩
attribute [go_sem] a115
theorem a115_ok : cFun Go.Proofs.Try.prog (fun _ => 0) (fun _ => ⟨[], [], []⟩) (some 1) Go.Proofs.Try.f115 = some a115 := by kernel_rfl
theorem a115_body : okBody Go.Proofs.Try.prog 115 = true := by kernel_rfl
def a116b : ACode :=
 (.seq
 (.ops [
 ⟨(some 3), none, .move (c (.bool false))⟩])
 (.seq
 (.ops [
 ⟨(some 4), none, .move (t 0)⟩,
 ⟨(some 5), none, .indexArr 6 1 (t 1) (t 4)⟩,
 ⟨(some 6), none, .load1 (t 5)⟩,
 ⟨(some 7), none, .bin .gtr (t 6) (c (i64 0))⟩,
 ⟨(some 3), none, .move (t 7)⟩])
 .ret))
attribute [go_sem] a116b
def a116 : AFun := ⟨8, [.tmp 3], a116b, (some 1)⟩
attribute [go_sem] a116
theorem a116_ok : cFun Go.Proofs.Try.prog (fun _ => 0) (fun _ => ⟨[], [], []⟩) (some 1) Go.Proofs.Try.f116 = some a116 := by kernel_rfl
theorem a116_body : okBody Go.Proofs.Try.prog 116 = true := by kernel_rfl
def a117b : ACode :=
 (.seq
 (.ops [
 ⟨(some 4), none, .move (c (.bool false))⟩])
 (.seq
 (.ops [
 ⟨(some 5), none, .move (t 0)⟩,
 ⟨(some 6), none, .move (t 1)⟩,
 ⟨(some 7), none, .call 132 [(t 5), (t 6)]⟩,
 ⟨(some 8), none, .bin .geq (t 7) (c (i64 0))⟩,
 ⟨(some 4), none, .move (t 8)⟩])
 .ret))
attribute [go_sem] a117b
def a117 : AFun := ⟨9, [.tmp 4], a117b, (some 1)⟩
attribute [go_sem] a117
theorem a117_ok : cFun Go.Proofs.Try.prog (fun _ => 0) (fun _ => ⟨[], [], []⟩) (some 1) Go.Proofs.Try.f117 = some a117 := by kernel_rfl
theorem a117_body : okBody Go.Proofs.Try.prog 117 = true := by kernel_rfl
def a118b : ACode :=
 (.seq
 (.ops [
 ⟨(some 2), none, .boxI (t 0)⟩,
 ⟨(some 4), none, .move (c (.bool false))⟩])
 (.seq
 (.ops [
 ⟨(some 5), none, .move (t 1)⟩,
 ⟨(some 6), none, .fieldAddr 0 (t 2)⟩,
 ⟨(some 7), none, .load1 (t 6)⟩,
 ⟨(some 8), none, .fieldAddr 1 (t 2)⟩,
 ⟨(some 9), none, .load1 (t 8)⟩,
 ⟨(some 10), none, .call 129 [(t 5), (t 7), (t 9)]⟩,
 ⟨(some 4), none, .move (t 10)⟩])
 .ret))
attribute [go_sem] a118b
def a118 : AFun := ⟨11, [.tmp 4], a118b, (some 1)⟩
attribute [go_sem] a118
theorem a118_ok : cFun Go.Proofs.Try.prog (hintL [(2, 1)]) (fun _ => ⟨[], [], []⟩) (some 1) Go.Proofs.Try.f118 = some a118 := by kernel_rfl
theorem a118_body : okBody Go.Proofs.Try.prog 118 = true := by kernel_rfl
def a119b : ACode :=
 (.seq
 (.ops [
 ⟨(some 3), none, .boxI (t 0)⟩,
 ⟨(some 6), none, .move (c (.bool false))⟩])
 (.seq
 (.ops [
 ⟨(some 7), none, .loadn 3 (t 3)⟩,
 ⟨(some 8), none, .move (t 1)⟩,
 ⟨(some 9), none, .call 121 [(t 7), (t 8)]⟩,
 ⟨(some 10), none, .move (t 9)⟩,
 ⟨(some 11), some (10, true), .loadn 3 (t 3)⟩,
 ⟨(some 12), some (10, true), .move (t 2)⟩,
 ⟨(some 13), some (10, true), .call 121 [(t 11), (t 12)]⟩,
 ⟨(some 14), none, .pick (t 10) (t 13) (c (.bool false))⟩,
 ⟨(some 15), none, .move (t 14)⟩,
 ⟨(some 16), some (15, true), .move (t 1)⟩,
 ⟨(some 17), some (15, true), .move (t 2)⟩,
 ⟨(some 18), some (15, true), .bin .neq (t 16) (t 17)⟩,
 ⟨(some 19), none, .pick (t 15) (t 18) (c (.bool false))⟩,
 ⟨(some 6), none, .move (t 19)⟩])
 .ret))
attribute [go_sem] a119b
def a119 : AFun := ⟨20, [.tmp 6], a119b, (some 1)⟩
attribute [go_sem] a119
theorem a119_ok : cFun Go.Proofs.Try.prog (hintL [(3, 1)]) (fun _ => ⟨[], [], []⟩) (some 1) Go.Proofs.Try.f119 = some a119 := by kernel_rfl
theorem a119_body : okBody Go.Proofs.Try.prog 119 = true := by kernel_rfl
def a120b : ACode :=
 (.seq
 (.ops [
 ⟨(some 3), none, .boxI (t 0)⟩,
 ⟨(some 6), none, .move (c (.bool false))⟩])
 (.seq
 (.ops [
 ⟨(some 7), none, .move (t 1)⟩,
 ⟨(some 8), none, .fieldAddr 0 (t 3)⟩,
 ⟨(some 9), none, .load1 (t 8)⟩,
 ⟨(some 10), none, .bin .leq (t 7) (t 9)⟩,
 ⟨(some 11), none, .move (t 10)⟩,
 ⟨(some 12), some (11, true), .fieldAddr 0 (t 3)⟩,
 ⟨(some 13), some (11, true), .load1 (t 12)⟩,
 ⟨(some 14), some (11, true), .fieldAddr 1 (t 3)⟩,
 ⟨(some 15), some (11, true), .load1 (t 14)⟩,
 ⟨(some 16), some (11, true), .bin .leq (t 13) (t 15)⟩,
 ⟨(some 17), none, .pick (t 11) (t 16) (c (.bool false))⟩,
 ⟨(some 18), none, .move (t 17)⟩,
 ⟨(some 19), some (18, true), .fieldAddr 1 (t 3)⟩,
 ⟨(some 20), some (18, true), .load1 (t 19)⟩,
 ⟨(some 21), some (18, true), .move (t 2)⟩,
 ⟨(some 22), some (18, true), .bin .leq (t 20) (t 21)⟩,
 ⟨(some 23), none, .pick (t 18) (t 22) (c (.bool false))⟩,
 ⟨(some 6), none, .move (t 23)⟩])
 .ret))
attribute [go_sem] a120b
def a120 : AFun := ⟨24, [.tmp 6], a120b, (some 1)⟩
attribute [go_sem] a120
theorem a120_ok : cFun Go.Proofs.Try.prog (hintL [(3, 1)]) (fun _ => ⟨[], [], []⟩) (some 1) Go.Proofs.Try.f120 = some a120 := by kernel_rfl
theorem a120_body : okBody Go.Proofs.Try.prog 120 = true := by kernel_rfl
def a121b : ACode :=
 (.seq
 (.ops [
 ⟨(some 2), none, .boxI (t 0)⟩,
 ⟨(some 4), none, .move (c (.bool false))⟩])
 (.seq
 (.ops [
 ⟨(some 5), none, .move (t 1)⟩,
 ⟨(some 6), none, .fieldAddr 0 (t 2)⟩,
 ⟨(some 7), none, .load1 (t 6)⟩,
 ⟨(some 8), none, .bin .sub (t 7) (c (i64 1))⟩,
 ⟨(some 9), none, .call 129 [(t 5), (c (i64 0)), (t 8)]⟩,
 ⟨(some 4), none, .move (t 9)⟩])
 .ret))
attribute [go_sem] a121b
def a121 : AFun := ⟨10, [.tmp 4], a121b, (some 1)⟩
attribute [go_sem] a121
theorem a121_ok : cFun Go.Proofs.Try.prog (hintL [(2, 1)]) (fun _ => ⟨[], [], []⟩) (some 1) Go.Proofs.Try.f121 = some a121 := by kernel_rfl
theorem a121_body : okBody Go.Proofs.Try.prog 121 = true := by kernel_rfl
def a122b : ACode :=
 (.seq
 (.ops [
 ⟨(some 4), none, .move (c (.bool false))⟩])
 (.seq
 (.ops [
 ⟨(some 5), none, .move (t 0)⟩,
 ⟨(some 6), none, .move (t 1)⟩,
 ⟨(some 7), none, .call 133 [(t 5), (t 6)]⟩,
 ⟨(some 8), none, .bin .geq (t 7) (c (i64 0))⟩,
 ⟨(some 4), none, .move (t 8)⟩])
 .ret))
attribute [go_sem] a122b
def a122 : AFun := ⟨9, [.tmp 4], a122b, (some 1)⟩
attribute [go_sem] a122
theorem a122_ok : cFun Go.Proofs.Try.prog (fun _ => 0) (fun _ => ⟨[], [], []⟩) (some 1) Go.Proofs.Try.f122 = some a122 := by kernel_rfl
theorem a122_body : okBody Go.Proofs.Try.prog 122 = true := by kernel_rfl
def a123b : ACode :=
 (.seq
 (.ops [
 ⟨(some 2), none, .boxI (t 0)⟩,
 ⟨(some 3), none, .move (c (.bool false))⟩])
 (.seq
 (.ops [
 ⟨(some 4), none, .load1 (t 1)⟩,
 ⟨(some 5), none, .loadn 4 (t 2)⟩,
 ⟨(some 6), none, .callv (t 4) [(t 5)]⟩,
 ⟨(some 7), none, .un .not (t 6)⟩,
 ⟨(some 3), none, .move (t 7)⟩])
 .ret))
attribute [go_sem] a123b
def a123 : AFun := ⟨8, [.tmp 3], a123b, (some 1)⟩
attribute [go_sem] a123
theorem a123_ok : cFun Go.Proofs.Try.prog (hintL [(2, 1)]) (fun _ => ⟨[], [], []⟩) (some 1) Go.Proofs.Try.f123 = some a123 := by kernel_rfl
theorem a123_body : okBody Go.Proofs.Try.prog 123 = true := by kernel_rfl
def a124b : ACode :=
 (.seq
 (.ops [
 ⟨(some 4), none, .move (c (.bool false))⟩])
 (.seq
 (.ops [
 ⟨(some 5), none, .move (t 0)⟩,
 ⟨(some 6), none, .move (t 1)⟩,
 ⟨(some 7), none, .call 134 [(t 5), (t 6)]⟩,
 ⟨(some 8), none, .bin .geq (t 7) (c (i64 0))⟩,
 ⟨(some 4), none, .move (t 8)⟩])
 .ret))
attribute [go_sem] a124b
def a124 : AFun := ⟨9, [.tmp 4], a124b, (some 1)⟩
attribute [go_sem] a124
theorem a124_ok : cFun Go.Proofs.Try.prog (fun _ => 0) (fun _ => ⟨[], [], []⟩) (some 1) Go.Proofs.Try.f124 = some a124 := by kernel_rfl
theorem a124_body : okBody Go.Proofs.Try.prog 124 = true := by kernel_rfl
def a125b : ACode :=
 (.seq
 (.ops [
 ⟨(some 2), none, .boxI (t 0)⟩,
 ⟨(some 3), none, .move (c (.bool false))⟩])
 (.seq
 (.ops [
 ⟨(some 4), none, .load1 (t 1)⟩,
 ⟨(some 5), none, .loadn 3 (t 2)⟩,
 ⟨(some 6), none, .callv (t 4) [(t 5)]⟩,
 ⟨(some 7), none, .un .not (t 6)⟩,
 ⟨(some 3), none, .move (t 7)⟩])
 .ret))
attribute [go_sem] a125b
def a125 : AFun := ⟨8, [.tmp 3], a125b, (some 1)⟩
attribute [go_sem] a125
theorem a125_ok : cFun Go.Proofs.Try.prog (hintL [(2, 1)]) (fun _ => ⟨[], [], []⟩) (some 1) Go.Proofs.Try.f125 = some a125 := by kernel_rfl
theorem a125_body : okBody Go.Proofs.Try.prog 125 = true := by kernel_rfl
def a126_l0b : ACode :=
 (.seq
 (.seq
 (.ops [
 ⟨(some 12), none, .move (t 4)⟩,
 ⟨(some 13), none, .move (t 0)⟩,
 ⟨(some 14), none, .len (t 13)⟩,
 ⟨(some 15), none, .bin .lss (t 12) (t 14)⟩])
 (.cond (t 15)
 .skip
 (.exit 0)))
 (.seq
 (.block 1 (.ops [
 ⟨(some 18), none, .move (t 3)⟩,
 ⟨(some 19), none, .move (t 0)⟩,
 ⟨(some 20), none, .move (t 4)⟩,
 ⟨(some 21), none, .indexSl 1 (t 19) (t 20)⟩,
 ⟨(some 22), none, .load1 (t 21)⟩,
 ⟨(some 23), none, .maxmin false [(t 18), (t 22)]⟩,
 ⟨(some 3), none, .move (t 23)⟩]))
 (.ops [
 ⟨(some 16), none, .move (t 4)⟩,
 ⟨(some 17), none, .bin .add (t 16) (c (i64 1))⟩,
 ⟨(some 4), none, .move (t 17)⟩])))
attribute [go_sem] a126_l0b
def a126_l0 : ACode := a126_l0b
@[go_sem] theorem a126_l0_ev (H : Han) (fr : List AVal) (s : St) : evalCode H a126_l0 fr s = evalCode H a126_l0b fr s := (rfl)
def a126b : ACode :=
 (.seq
 (.ops [
 ⟨(some 2), none, .move (c (i64 0))⟩])
 (.seq
 (.seq
 (.ops [
 ⟨(some 5), none, .move (t 0)⟩,
 ⟨(some 6), none, .len (t 5)⟩,
 ⟨(some 7), none, .bin .lss (t 6) (c (i64 1))⟩])
 (.cond (t 7)
 (.ops [
 ⟨(some 8), none, .stuck⟩,
 ⟨none, none, .stuck⟩])
 .skip))
 (.seq
 (.ops [
 ⟨(some 9), none, .move (t 0)⟩,
 ⟨(some 10), none, .indexSl 1 (t 9) (c (i64 0))⟩,
 ⟨(some 11), none, .load1 (t 10)⟩,
 ⟨(some 3), none, .move (t 11)⟩])
 (.seq
 (.seq
 (.ops [
 ⟨(some 4), none, .move (c (i64 1))⟩])
 (.block 0 (.loop ⟨[0, 3, 4], [3], []⟩ a126_l0)))
 (.seq
 (.ops [
 ⟨(some 24), none, .move (t 3)⟩,
 ⟨(some 2), none, .move (t 24)⟩])
 .ret)))))
attribute [go_sem] a126b
def a126 : AFun := ⟨25, [.tmp 2], a126b, (some 1)⟩
attribute [go_sem] a126
theorem a126_ok : cFun Go.Proofs.Try.prog (fun _ => 0) (keepL [(122, ⟨[0, 3, 4], [3], []⟩)]) (some 1) Go.Proofs.Try.f126 = some a126 := by kernel_rfl
theorem a126_body : okBody Go.Proofs.Try.prog 126 = true := by kernel_rfl
def a127b : ACode :=
 (.seq
 (.ops [
 ⟨(some 4), none, .move (c (.bool false))⟩])
 (.seq
 (.ops [
 ⟨(some 5), none, .move (t 0)⟩,
 ⟨(some 6), none, .move (t 1)⟩,
 ⟨(some 7), none, .call 135 [(t 5), (t 6)]⟩,
 ⟨(some 8), none, .bin .geq (t 7) (c (i64 0))⟩,
 ⟨(some 4), none, .move (t 8)⟩])
 .ret))
attribute [go_sem] a127b
def a127 : AFun := ⟨9, [.tmp 4], a127b, (some 1)⟩
attribute [go_sem] a127
theorem a127_ok : cFun Go.Proofs.Try.prog (fun _ => 0) (fun _ => ⟨[], [], []⟩) (some 1) Go.Proofs.Try.f127 = some a127 := by kernel_rfl
theorem a127_body : okBody Go.Proofs.Try.prog 127 = true := by kernel_rfl
def a128b : ACode :=
 (.seq
 (.ops [
 ⟨(some 2), none, .boxI (t 0)⟩,
 ⟨(some 3), none, .move (c (.bool false))⟩])
 (.seq
 (.ops [
 ⟨(some 4), none, .load1 (t 1)⟩,
 ⟨(some 5), none, .loadn 3 (t 2)⟩,
 ⟨(some 6), none, .callv (t 4) [(t 5)]⟩,
 ⟨(some 7), none, .un .not (t 6)⟩,
 ⟨(some 3), none, .move (t 7)⟩])
 .ret))
attribute [go_sem] a128b
def a128 : AFun := ⟨8, [.tmp 3], a128b, (some 1)⟩
attribute [go_sem] a128
theorem a128_ok : cFun Go.Proofs.Try.prog (hintL [(2, 1)]) (fun _ => ⟨[], [], []⟩) (some 1) Go.Proofs.Try.f128 = some a128 := by kernel_rfl
theorem a128_body : okBody Go.Proofs.Try.prog 128 = true := by kernel_rfl
def a129b : ACode :=
 (.seq
 (.ops [
 ⟨(some 6), none, .move (c (.bool false))⟩])
 (.seq
 (.ops [
 ⟨(some 7), none, .move (t 1)⟩,
 ⟨(some 8), none, .move (t 0)⟩,
 ⟨(some 9), none, .bin .leq (t 7) (t 8)⟩,
 ⟨(some 10), none, .move (t 9)⟩,
 ⟨(some 11), some (10, true), .move (t 0)⟩,
 ⟨(some 12), some (10, true), .move (t 2)⟩,
 ⟨(some 13), some (10, true), .bin .leq (t 11) (t 12)⟩,
 ⟨(some 14), none, .pick (t 10) (t 13) (c (.bool false))⟩,
 ⟨(some 6), none, .move (t 14)⟩])
 .ret))
attribute [go_sem] a129b
def a129 : AFun := ⟨15, [.tmp 6], a129b, (some 1)⟩
attribute [go_sem] a129
theorem a129_ok : cFun Go.Proofs.Try.prog (fun _ => 0) (fun _ => ⟨[], [], []⟩) (some 1) Go.Proofs.Try.f129 = some a129 := by kernel_rfl
theorem a129_body : okBody Go.Proofs.Try.prog 129 = true := by kernel_rfl
def a130b : ACode :=
 (.seq
 (.ops [
 ⟨(some 2), none, .boxI (t 0)⟩])
 (.seq
 (.ops [
 ⟨(some 5), none, .fieldAddr 1 (t 1)⟩,
 ⟨(some 6), none, .load1 (t 5)⟩,
 ⟨(some 7), none, .len (t 6)⟩,
 ⟨(some 8), none, .mkSlice [(i64 0)] 8 (t 7) (t 7)⟩,
 ⟨(some 3), none, .alloc [.sl0]⟩,
 ⟨none, none, .store 1 (t 3) (t 8)⟩])
 (.seq
 (.ops [
 ⟨(some 4), none, .alloc [.nilf]⟩])
 (.seq
 (.ops [
 ⟨(some 9), none, .mkFn (.func 131) [] [(t 1), (t 2), (t 3), (t 4)]⟩,
 ⟨none, none, .store 1 (t 4) (t 9)⟩])
 (.ops [
 ⟨(some 10), none, .load1 (t 4)⟩,
 ⟨(some 11), none, .callv (t 10) [(c (i64 0))]⟩])))))
attribute [go_sem] a130b
def a130 : AFun := ⟨12, [], a130b, none⟩
attribute [go_sem] a130
theorem a130_ok : cFun Go.Proofs.Try.prog (hintL [(2, 1)]) (fun _ => ⟨[], [], []⟩) none Go.Proofs.Try.f130 = some a130 := by kernel_rfl
theorem a130_body : okBody Go.Proofs.Try.prog 130 = true := by kernel_rfl
def a131_l0b : ACode :=
 (.seq
 (.seq
 (.ops [
 ⟨(some 25), none, .move (t 7)⟩,
 ⟨(some 26), none, .fieldAddr 1 (t 1)⟩,
 ⟨(some 27), none, .load1 (t 26)⟩,
 ⟨(some 28), none, .move (t 0)⟩,
 ⟨(some 29), none, .indexSl 4 (t 27) (t 28)⟩,
 ⟨(some 30), none, .fieldAddr 2 (t 29)⟩,
 ⟨(some 31), none, .fieldAddr 1 (t 30)⟩,
 ⟨(some 32), none, .load1 (t 31)⟩,
 ⟨(some 33), none, .bin .leq (t 25) (t 32)⟩])
 (.cond (t 33)
 .skip
 (.exit 0)))
 (.seq
 (.block 1 (.seq
 (.ops [
 ⟨(some 36), none, .load1 (t 3)⟩,
 ⟨(some 37), none, .move (t 0)⟩,
 ⟨(some 38), none, .move (t 7)⟩,
 ⟨(some 39), none, .indexSl 1 (t 36) (t 37)⟩,
 ⟨none, none, .store 1 (t 39) (t 38)⟩])
 (.seq
 (.ops [
 ⟨(some 40), none, .load1 (t 4)⟩,
 ⟨(some 41), none, .move (t 0)⟩,
 ⟨(some 42), none, .bin .add (t 41) (c (i64 1))⟩,
 ⟨(some 43), none, .callv (t 40) [(t 42)]⟩,
 ⟨(some 44), none, .un .not (t 43)⟩])
 (.cond (t 44)
 (.seq
 (.ops [
 ⟨(some 6), none, .move (c (.bool false))⟩])
 .ret)
 .skip))))
 (.ops [
 ⟨(some 34), none, .move (t 7)⟩,
 ⟨(some 35), none, .bin .add (t 34) (c (i64 1))⟩,
 ⟨(some 7), none, .move (t 35)⟩])))
attribute [go_sem] a131_l0b
def a131_l0 : ACode := a131_l0b
@[go_sem] theorem a131_l0_ev (H : Han) (fr : List AVal) (s : St) : evalCode H a131_l0 fr s = evalCode H a131_l0b fr s := (rfl)
def a131b : ACode :=
 (.seq
 (.ops [
 ⟨(some 6), none, .move (c (.bool false))⟩])
 (.seq
 (.seq
 (.ops [
 ⟨(some 8), none, .move (t 0)⟩,
 ⟨(some 9), none, .fieldAddr 1 (t 1)⟩,
 ⟨(some 10), none, .load1 (t 9)⟩,
 ⟨(some 11), none, .len (t 10)⟩,
 ⟨(some 12), none, .bin .eql (t 8) (t 11)⟩])
 (.cond (t 12)
 (.seq
 (.dops [
 (⟨(some 13), none, .load1 (t 2)⟩, 0, 1),
 (⟨(some 14), none, .loadn 3 (t 1)⟩, 0, 0),
 (⟨(some 15), none, .load1 (t 3)⟩, 0, 0),
 (⟨(some 16), none, .call 109 [(t 14), (t 15)]⟩, 0, 0),
 (⟨(some 17), none, .callv (t 13) [(t 16)]⟩, 1, 1),
 (⟨(some 6), none, .move (t 17)⟩, 2, 2)])
 .ret)
 .skip))
 (.seq
 (.seq
 (.ops [
 ⟨(some 18), none, .fieldAddr 1 (t 1)⟩,
 ⟨(some 19), none, .load1 (t 18)⟩,
 ⟨(some 20), none, .move (t 0)⟩,
 ⟨(some 21), none, .indexSl 4 (t 19) (t 20)⟩,
 ⟨(some 22), none, .fieldAddr 2 (t 21)⟩,
 ⟨(some 23), none, .fieldAddr 0 (t 22)⟩,
 ⟨(some 24), none, .load1 (t 23)⟩,
 ⟨(some 7), none, .move (t 24)⟩])
 (.block 0 (.loop ⟨[0, 1, 3, 4, 7], [], [6]⟩ a131_l0)))
 (.seq
 (.ops [
 ⟨(some 6), none, .move (c (.bool true))⟩])
 .ret))))
attribute [go_sem] a131b
def a131 : AFun := ⟨45, [.tmp 6], a131b, none⟩
attribute [go_sem] a131
theorem a131_ok : cFun Go.Proofs.Try.prog (fun _ => 0) (keepL [(58, ⟨[0, 1, 3, 4, 7], [], [6]⟩)]) none Go.Proofs.Try.f131 = some a131 := by kernel_rfl
theorem a131_body : okBody Go.Proofs.Try.prog 131 = true := by kernel_rfl
def a132_l0b : ACode :=
 (.seq
 (.ops [
 ⟨(some 9), none, .bin .lss (t 8) (t 7)⟩])
 (.seq
 (.cond (t 9)
 .skip
 (.exit 0))
 (.seq
 (.block 1 (.seq
 (.ops [
 ⟨(some 10), none, .move (t 8)⟩,
 ⟨(some 5), none, .move (t 10)⟩])
 (.seq
 (.ops [
 ⟨(some 11), none, .move (t 1)⟩,
 ⟨(some 12), none, .move (t 0)⟩,
 ⟨(some 13), none, .move (t 5)⟩,
 ⟨(some 14), none, .indexSl 1 (t 12) (t 13)⟩,
 ⟨(some 15), none, .load1 (t 14)⟩,
 ⟨(some 16), none, .bin .eql (t 11) (t 15)⟩])
 (.cond (t 16)
 (.seq
 (.ops [
 ⟨(some 17), none, .move (t 5)⟩,
 ⟨(some 4), none, .move (t 17)⟩])
 .ret)
 .skip))))
 (.ops [
 ⟨(some 18), none, .bin .add (t 8) (c (i64 1))⟩,
 ⟨(some 8), none, .move (t 18)⟩]))))
attribute [go_sem] a132_l0b
def a132_l0 : ACode := a132_l0b
@[go_sem] theorem a132_l0_ev (H : Han) (fr : List AVal) (s : St) : evalCode H a132_l0 fr s = evalCode H a132_l0b fr s := (rfl)
def a132b : ACode :=
 (.seq
 (.ops [
 ⟨(some 4), none, .move (c (i64 0))⟩])
 (.seq
 (.seq
 (.ops [
 ⟨(some 6), none, .move (t 0)⟩,
 ⟨(some 7), none, .len (t 6)⟩,
 ⟨(some 8), none, .move (c (i64 0))⟩])
 (.block 0 (.loop ⟨[0, 1, 7, 8], [], [4]⟩ a132_l0)))
 (.seq
 (.ops [
 ⟨(some 4), none, .move (c (i64 (-1)))⟩])
 .ret)))
attribute [go_sem] a132b
def a132 : AFun := ⟨19, [.tmp 4], a132b, (some 1)⟩
attribute [go_sem] a132
theorem a132_ok : cFun Go.Proofs.Try.prog (fun _ => 0) (keepL [(26, ⟨[0, 1, 7, 8], [], [4]⟩)]) (some 1) Go.Proofs.Try.f132 = some a132 := by kernel_rfl
theorem a132_body : okBody Go.Proofs.Try.prog 132 = true := by kernel_rfl
def a133_l0b : ACode :=
 (.seq
 (.ops [
 ⟨(some 9), none, .bin .lss (t 8) (t 7)⟩])
 (.seq
 (.cond (t 9)
 .skip
 (.exit 0))
 (.seq
 (.block 1 (.seq
 (.ops [
 ⟨(some 10), none, .move (t 8)⟩,
 ⟨(some 5), none, .move (t 10)⟩])
 (.seq
 (.ops [
 ⟨(some 11), none, .move (t 1)⟩,
 ⟨(some 12), none, .move (t 0)⟩,
 ⟨(some 13), none, .move (t 5)⟩,
 ⟨(some 14), none, .indexSl 4 (t 12) (t 13)⟩,
 ⟨(some 15), none, .loadn 4 (t 14)⟩,
 ⟨(some 16), none, .callv (t 11) [(t 15)]⟩])
 (.cond (t 16)
 (.seq
 (.ops [
 ⟨(some 17), none, .move (t 5)⟩,
 ⟨(some 4), none, .move (t 17)⟩])
 .ret)
 .skip))))
 (.ops [
 ⟨(some 18), none, .bin .add (t 8) (c (i64 1))⟩,
 ⟨(some 8), none, .move (t 18)⟩]))))
attribute [go_sem] a133_l0b
def a133_l0 : ACode := a133_l0b
@[go_sem] theorem a133_l0_ev (H : Han) (fr : List AVal) (s : St) : evalCode H a133_l0 fr s = evalCode H a133_l0b fr s := (rfl)
def a133b : ACode :=
 (.seq
 (.ops [
 ⟨(some 4), none, .move (c (i64 0))⟩])
 (.seq
 (.seq
 (.ops [
 ⟨(some 6), none, .move (t 0)⟩,
 ⟨(some 7), none, .len (t 6)⟩,
 ⟨(some 8), none, .move (c (i64 0))⟩])
 (.block 0 (.loop ⟨[0, 1, 7, 8], [], [4]⟩ a133_l0)))
 (.seq
 (.ops [
 ⟨(some 4), none, .move (c (i64 (-1)))⟩])
 .ret)))
attribute [go_sem] a133b
def a133 : AFun := ⟨19, [.tmp 4], a133b, (some 1)⟩
attribute [go_sem] a133
theorem a133_ok : cFun Go.Proofs.Try.prog (fun _ => 0) (keepL [(26, ⟨[0, 1, 7, 8], [], [4]⟩)]) (some 1) Go.Proofs.Try.f133 = some a133 := by kernel_rfl
theorem a133_body : okBody Go.Proofs.Try.prog 133 = true := by kernel_rfl
def a134_l0b : ACode :=
 (.seq
 (.ops [
 ⟨(some 9), none, .bin .lss (t 8) (t 7)⟩])
 (.seq
 (.cond (t 9)
 .skip
 (.exit 0))
 (.seq
 (.block 1 (.seq
 (.ops [
 ⟨(some 10), none, .move (t 8)⟩,
 ⟨(some 5), none, .move (t 10)⟩])
 (.seq
 (.ops [
 ⟨(some 11), none, .move (t 1)⟩,
 ⟨(some 12), none, .move (t 0)⟩,
 ⟨(some 13), none, .move (t 5)⟩,
 ⟨(some 14), none, .indexSl 3 (t 12) (t 13)⟩,
 ⟨(some 15), none, .loadn 3 (t 14)⟩,
 ⟨(some 16), none, .callv (t 11) [(t 15)]⟩])
 (.cond (t 16)
 (.seq
 (.ops [
 ⟨(some 17), none, .move (t 5)⟩,
 ⟨(some 4), none, .move (t 17)⟩])
 .ret)
 .skip))))
 (.ops [
 ⟨(some 18), none, .bin .add (t 8) (c (i64 1))⟩,
 ⟨(some 8), none, .move (t 18)⟩]))))
attribute [go_sem] a134_l0b
def a134_l0 : ACode := a134_l0b
@[go_sem] theorem a134_l0_ev (H : Han) (fr : List AVal) (s : St) : evalCode H a134_l0 fr s = evalCode H a134_l0b fr s := (rfl)
def a134b : ACode :=
 (.seq
 (.ops [
 ⟨(some 4), none, .move (c (i64 0))⟩])
 (.seq
 (.seq
 (.ops [
 ⟨(some 6), none, .move (t 0)⟩,
 ⟨(some 7), none, .len (t 6)⟩,
 ⟨(some 8), none, .move (c (i64 0))⟩])
 (.block 0 (.loop ⟨[0, 1, 7, 8], [], [4]⟩ a134_l0)))
 (.seq
 (.ops [
 ⟨(some 4), none, .move (c (i64 (-1)))⟩])
 .ret)))
attribute [go_sem] a134b
def a134 : AFun := ⟨19, [.tmp 4], a134b, (some 1)⟩
attribute [go_sem] a134
theorem a134_ok : cFun Go.Proofs.Try.prog (fun _ => 0) (keepL [(26, ⟨[0, 1, 7, 8], [], [4]⟩)]) (some 1) Go.Proofs.Try.f134 = some a134 := by kernel_rfl
theorem a134_body : okBody Go.Proofs.Try.prog 134 = true := by kernel_rfl
def a135_l0b : ACode :=
 (.seq
 (.ops [
 ⟨(some 9), none, .bin .lss (t 8) (t 7)⟩])
 (.seq
 (.cond (t 9)
 .skip
 (.exit 0))
 (.seq
 (.block 1 (.seq
 (.ops [
 ⟨(some 10), none, .move (t 8)⟩,
 ⟨(some 5), none, .move (t 10)⟩])
 (.seq
 (.ops [
 ⟨(some 11), none, .move (t 1)⟩,
 ⟨(some 12), none, .move (t 0)⟩,
 ⟨(some 13), none, .move (t 5)⟩,
 ⟨(some 14), none, .indexSl 3 (t 12) (t 13)⟩,
 ⟨(some 15), none, .loadn 3 (t 14)⟩,
 ⟨(some 16), none, .callv (t 11) [(t 15)]⟩])
 (.cond (t 16)
 (.seq
 (.ops [
 ⟨(some 17), none, .move (t 5)⟩,
 ⟨(some 4), none, .move (t 17)⟩])
 .ret)
 .skip))))
 (.ops [
 ⟨(some 18), none, .bin .add (t 8) (c (i64 1))⟩,
 ⟨(some 8), none, .move (t 18)⟩]))))
attribute [go_sem] a135_l0b
def a135_l0 : ACode := a135_l0b
def a135b : ACode :=
 (.seq
 (.ops [
 ⟨(some 4), none, .move (c (i64 0))⟩])
 (.seq
 (.seq
 (.ops [
 ⟨(some 6), none, .move (t 0)⟩,
 ⟨(some 7), none, .len (t 6)⟩,
 ⟨(some 8), none, .move (c (i64 0))⟩])
 (.block 0 (.loop ⟨[0, 1, 7, 8], [], [4]⟩ a135_l0)))
 (.seq
 (.ops [
 ⟨(some 4), none, .move (c (i64 (-1)))⟩])
 .ret)))
attribute [go_sem] a135b
def a135 : AFun := ⟨19, [.tmp 4], a135b, (some 1)⟩
attribute [go_sem] a135
theorem a135_ok : cFun Go.Proofs.Try.prog (fun _ => 0) (keepL [(26, ⟨[0, 1, 7, 8], [], [4]⟩)]) (some 1) Go.Proofs.Try.f135 = some a135 := by kernel_rfl
theorem a135_body : okBody Go.Proofs.Try.prog 135 = true := by kernel_rfl

end Go.Proofs.Ytlhfeiacigmliaa
