/- The law SoapNames answers true: the document's examples, and the errors. -/
import Derived.Test.YtlhfeiacigmliaaPartI
set_option linter.all false
namespace Go.Proofs.Ytlhfeiacigmliaa
open Go Go.ChangeShapes Go.RowKit
set_option maxRecDepth 100000
set_option maxHeartbeats 40000000

def hslO (len : Nat) (s : St) : Option (List AVal) → Option (AVal × St)
  | some cs => some (.hsl s.n 0 len (some len), s.push (.cells cs))
  | none => none
@[go_sem] theorem op_buildHs (H : Han) (fr : List AVal) (s : St) (cs : List AVal) (len : Nat) (parts : List (Nat × Nat × AOpd)) : evalOp H (.buildHs cs len parts) fr s = hslO len s (fillA cs (partsE fr parts)) := by
  show (fillA cs (parts.map fun (a, b, x) => (a, b, x.eval fr))).map _ = _
  rw [partsE_eq]; cases fillA cs (partsE fr parts) <;> rfl
@[go_sem] theorem hslO_some (len N : Nat) (O : List AObj) (p : Nat) (q : Nat → Nat) (cs : List AVal) : hslO len ⟨N, O, p, q⟩ (some cs) = some (.hsl N 0 len (some len), ⟨na N 1, .cells cs :: O, p, q⟩) := (rfl)
@[go_sem] theorem chK_loadn_6_7 (n : Nat) (a : AOpd) (fr : List AVal) (v : AVal) (chks : List Chk) : chK (.loadn n a) 6 7 fr v chks = ⟨a.eval fr, (some n), v, 6, 7⟩ :: chks := (rfl)
@[go_sem] theorem cut_6_7 (s0 s1 s2 s3 s4 s5 s6 s7 : St) (l : List St) : cut 6 7 (s0 :: s1 :: s2 :: s3 :: s4 :: s5 :: s6 :: s7 :: l) = [s6, s7] := by simp [cut]
@[go_sem] theorem beq_hsl (b o l : Nat) (c : Option Nat) : AVal.beq (.hsl b o l c) (.hsl b o l c) = true := by simp [AVal.beq]
theorem mk7 (N : Nat) (O : List AObj) (p : Nat) (q : Nat → Nat) : mkS [i64 0, i64 0, i64 0, i64 0] 32 (i64 7) (i64 7) ⟨N, O, p, q⟩ = some (.hsl N 0 7 (some 7), ⟨na N 1, .cells (List.replicate 28 (i64 0)) :: O, p, q⟩) := by
  unfold mkS i64
  simp only
  rw [if_pos ⟨by simp, by simp, by simp, by simp⟩]
  rfl
theorem mk6 (N : Nat) (O : List AObj) (p : Nat) (q : Nat → Nat) : mkS [i64 0, i64 0, i64 0] 24 (i64 6) (i64 6) ⟨N, O, p, q⟩ = some (.hsl N 0 6 (some 6), ⟨na N 1, .cells (List.replicate 18 (i64 0)) :: O, p, q⟩) := by
  unfold mkS i64
  simp only
  rw [if_pos ⟨by simp, by simp, by simp, by simp⟩]
  rfl
theorem hi6_1 (a b d e f g : AVal) (pm : Perm) : sliceHi 3 (.vsl [a, b, d, e, f, g] 2 pm) (i64 1) = some (.vsl [a, b, d] 1 .no) := rfl
theorem k71_2 (s : St) : lim tbl (.call 71 [i64 2]) s = some (.ret, [vSl (fourS 2)], s) := by
  rw [lim_call tbl_71]; obtain ⟨N, O, p, q⟩ := s
  (try simp only [go_sem, ↓reduceIte, Nat.reduceAdd, Nat.reduceEqDiff, Nat.reduceLT, Nat.reduceLeDiff, Nat.reduceBEq, Int.reduceEq, Int.reduceLT, Int.reduceLE]); (repeat ((first | rw [hi9_2] | (rw [lt_yes]; rotate_left; (first | omega | (simp [lenOf, app]; omega) | (simp only [lenOf]; omega))) | (rw [lt_no]; rotate_left; (first | omega | (simp [lenOf, app]; omega) | (simp only [lenOf]; omega))) | (rw [idxA_at]; rotate_left; (first | omega | (simp [lenOf, app]; omega) | (simp only [lenOf]; omega))) | (rw [wr_up]; rotate_left; (first | omega | (simp [lenOf, app]; omega) | (simp only [lenOf]; omega))) | ((first | rw [drop_cI] | rw [drop_cE] | rw [drop_cS] | rw [drop_cP] | rw [drop_cR]); rotate_left; assumption)); try simp only [go_sem, ↓reduceIte, Nat.reduceAdd, Nat.reduceEqDiff, Nat.reduceLT, Nat.reduceLeDiff, Nat.reduceBEq, Int.reduceEq, Int.reduceLT, Int.reduceLE]))
  rfl
def cellsE4 : List AVal := [i64 0, i64 1, i64 2, i64 3, i64 1, i64 2, i64 2, i64 2, i64 3, i64 2, i64 1, i64 4]
def cellsS4 : List AVal := [i64 2, i64 (-4), i64 (-3), i64 1, i64 (-1), i64 (-1), i64 0, i64 2, i64 2]
theorem hh_0 (b m : Nat) (o : Option Nat) : sliceHi 3 (.hsl b 0 3 (some 3)) (i64 0) = some (.hsl b 0 0 (some 3)) := by simp [sliceHi, sliceA, boundA, AOpd.eval]
theorem hh_1 (b m : Nat) (o : Option Nat) : sliceHi 3 (.hsl b 0 3 (some 3)) (i64 1) = some (.hsl b 0 1 (some 3)) := by simp [sliceHi, sliceA, boundA, AOpd.eval]

theorem k71v1_0 (N : Nat) (O : List AObj) (p : Nat) (q : Nat → Nat) : lim tbl (.call 4167 [i64 0]) ⟨N, O, p, q⟩ = some (.ret, [.agg [i64 4, .hsl (na (na N 1) 1) 0 3 (some 3), .hsl (na N 1) 0 0 (some 3)]], ⟨na (na (na N 1) 1) 1, .cells cellsE4 :: .cells cellsS4 :: .cells [i64 4, .hsl (na (na N 1) 1) 0 3 (some 3), .hsl (na N 1) 0 0 (some 3)] :: O, p, q⟩) := by
  rw [lim_call tbl_71v1]
  unfold cellsE4 cellsS4
  have h0 := hh_0 (na N 1) 0 none
  (try simp only [go_sem, ↓reduceIte, Nat.reduceAdd, Nat.reduceEqDiff, Nat.reduceLT, Nat.reduceLeDiff, Nat.reduceBEq, Int.reduceEq, Int.reduceLT, Int.reduceLE]); (repeat ((first | rw [h0] | (rw [lt_yes]; rotate_left; (first | omega | (simp [lenOf, app]; omega) | (simp only [lenOf]; omega))) | (rw [lt_no]; rotate_left; (first | omega | (simp [lenOf, app]; omega) | (simp only [lenOf]; omega))) | (rw [idxA_at]; rotate_left; (first | omega | (simp [lenOf, app]; omega) | (simp only [lenOf]; omega))) | (rw [wr_up]; rotate_left; (first | omega | (simp [lenOf, app]; omega) | (simp only [lenOf]; omega))) | ((first | rw [drop_cI] | rw [drop_cE] | rw [drop_cS] | rw [drop_cP] | rw [drop_cR]); rotate_left; assumption)); try simp only [go_sem, ↓reduceIte, Nat.reduceAdd, Nat.reduceEqDiff, Nat.reduceLT, Nat.reduceLeDiff, Nat.reduceBEq, Int.reduceEq, Int.reduceLT, Int.reduceLE]))

theorem k71v1_1 (N : Nat) (O : List AObj) (p : Nat) (q : Nat → Nat) : lim tbl (.call 4167 [i64 1]) ⟨N, O, p, q⟩ = some (.ret, [.agg [i64 4, .hsl (na (na N 1) 1) 0 3 (some 3), .hsl (na N 1) 0 1 (some 3)]], ⟨na (na (na N 1) 1) 1, .cells cellsE4 :: .cells cellsS4 :: .cells [i64 4, .hsl (na (na N 1) 1) 0 3 (some 3), .hsl (na N 1) 0 1 (some 3)] :: O, p, q⟩) := by
  rw [lim_call tbl_71v1]
  unfold cellsE4 cellsS4
  have h0 := hh_1 (na N 1) 0 none
  (try simp only [go_sem, ↓reduceIte, Nat.reduceAdd, Nat.reduceEqDiff, Nat.reduceLT, Nat.reduceLeDiff, Nat.reduceBEq, Int.reduceEq, Int.reduceLT, Int.reduceLE]); (repeat ((first | rw [h0] | (rw [lt_yes]; rotate_left; (first | omega | (simp [lenOf, app]; omega) | (simp only [lenOf]; omega))) | (rw [lt_no]; rotate_left; (first | omega | (simp [lenOf, app]; omega) | (simp only [lenOf]; omega))) | (rw [idxA_at]; rotate_left; (first | omega | (simp [lenOf, app]; omega) | (simp only [lenOf]; omega))) | (rw [wr_up]; rotate_left; (first | omega | (simp [lenOf, app]; omega) | (simp only [lenOf]; omega))) | ((first | rw [drop_cI] | rw [drop_cE] | rw [drop_cS] | rw [drop_cP] | rw [drop_cR]); rotate_left; assumption)); try simp only [go_sem, ↓reduceIte, Nat.reduceAdd, Nat.reduceEqDiff, Nat.reduceLT, Nat.reduceLeDiff, Nat.reduceBEq, Int.reduceEq, Int.reduceLT, Int.reduceLE]))

theorem y52a (s : St) : lim tbl (.call 52 [vSl (fourS 0), .vsl [i64 2, i64 2, i64 4] 3 .full]) s = some (.ret, [.tup [sl cI [2, 0, -6, 4], i64 0]], s) := by
  have h1 : playL (fourS 0) [2, 2, 4] = [2, 0, -6, 4] := by kernel_rfl
  have h2 : playErr (fourS 0) [2, 2, 4] = 0 := by kernel_rfl
  have h := k52 (fourS 0) [2, 2, 4] good_of_check s
  rw [h1, h2] at h
  exact (call_norm tbl_52 rfl (by kernel_rfl) s).trans h
theorem y52b (s : St) : lim tbl (.call 52 [vSl (fourS 0), .vsl [i64 4, i64 2, i64 1] 3 .full]) s = some (.ret, [.tup [.vsl [] 0 .no, i64 2]], s) := by
  have h1 : playL (fourS 0) [4, 2, 1] = [] := by kernel_rfl
  have h2 : playErr (fourS 0) [4, 2, 1] = 2 := by kernel_rfl
  have h := k52 (fourS 0) [4, 2, 1] good_of_check s
  rw [h1, h2] at h
  exact (call_norm tbl_52 rfl (by kernel_rfl) s).trans h
theorem y53a (s : St) : lim tbl (.call 53 [vSl (fourS 0), .vsl [i64 3, i64 2, i64 1] 3 .full]) s = some (.ret, [.tup [sl cP [⟨2, 0, 3⟩, ⟨1, 3, 1⟩], i64 0]], s) := by
  have h1 : settleP (fourS 0) [3, 2, 1] = [⟨2, 0, 3⟩, ⟨1, 3, 1⟩] := by kernel_rfl
  have h2 : playErr (fourS 0) [3, 2, 1] = 0 := by kernel_rfl
  have h := k53 (fourS 0) [3, 2, 1] s
  rw [h1, h2] at h
  exact (call_norm tbl_53 rfl (by kernel_rfl) s).trans h
theorem y53b (s : St) : lim tbl (.call 53 [vSl (fourS 3), .vsl [i64 2, i64 2] 2 .full]) s = some (.ret, [.tup [.vsl [] 0 .no, i64 2]], s) := by
  have h1 : settleP (fourS 3) [2, 2] = [] := by kernel_rfl
  have h2 : playErr (fourS 3) [2, 2] = 2 := by kernel_rfl
  have h := k53 (fourS 3) [2, 2] s
  rw [h1, h2] at h
  exact (call_norm tbl_53 rfl (by kernel_rfl) s).trans h
theorem y30a (s : St) : lim tbl (.call 30 [vSl (fourS 0), .vsl [i64 2, i64 2, i64 4] 3 .full]) s = some (.ret, [.tup [.vsl [sl cI [0, 2, 3]] 1 .no, i64 0]], s) := by
  have h1 : groupsP (fourS 0) [2, 2, 4] = [[0, 2, 3]] := by kernel_rfl
  have h2 : playErr (fourS 0) [2, 2, 4] = 0 := by kernel_rfl
  have h := k30 (fourS 0) [2, 2, 4] s
  rw [h1, h2] at h
  exact (call_norm tbl_30 rfl (by kernel_rfl) s).trans h
theorem y30b (s : St) : lim tbl (.call 30 [vSl (fourS 3), .vsl [i64 2, i64 2, i64 0] 3 .full]) s = some (.ret, [.tup [.vsl [] 0 .no, i64 2]], s) := by
  have h1 : groupsP (fourS 3) [2, 2, 0] = [] := by kernel_rfl
  have h2 : playErr (fourS 3) [2, 2, 0] = 2 := by kernel_rfl
  have h := k30 (fourS 3) [2, 2, 0] s
  rw [h1, h2] at h
  exact (call_norm tbl_30 rfl (by kernel_rfl) s).trans h
theorem y23a (s : St) : lim tbl (.call 23 [vSl (fourS 0)]) s = some (.ret, [.tup [.vsl [i64 2, i64 3, i64 (-1), i64 0, i64 (-6), i64 (-3), i64 1, i64 4] 4 .no, i64 0]], s) := by
  have h1 : boundsL (fourS 0) = [⟨2, 3⟩, ⟨-1, 0⟩, ⟨-6, -3⟩, ⟨1, 4⟩] := by kernel_rfl
  have h2 : askedErr (fourS 0) = 0 := by kernel_rfl
  have h := k23 (fourS 0) s
  rw [h1, h2] at h
  exact (call_norm tbl_23 rfl (by kernel_rfl) s).trans h
theorem y23b (s : St) : lim tbl (.call 23 [vSl (fourS 3)]) s = some (.ret, [.tup [.vsl [] 0 .no, i64 11]], s) := by
  have h1 : boundsL (fourS 3) = [] := by kernel_rfl
  have h2 : askedErr (fourS 3) = 11 := by kernel_rfl
  have h := k23 (fourS 3) s
  rw [h1, h2] at h
  exact (call_norm tbl_23 rfl (by kernel_rfl) s).trans h
theorem y25b (s : St) : lim tbl (.call 25 [vSl (fourS 3)]) s = some (.ret, [.tup [.vsl [] 0 .no, i64 11]], s) := by
  have h1 : (boundsL (fourS 3)).map owesF = [] := by kernel_rfl
  have h2 : askedErr (fourS 3) = 11 := by kernel_rfl
  have h := k25 (fourS 3) s
  rw [h1, h2] at h
  exact (call_norm tbl_25 rfl (by kernel_rfl) s).trans h
theorem y38a (s : St) : lim tbl (.call 38 [vSl (fourS 2)]) s = some (.ret, [.tup [.agg [i64 2, i64 3], i64 0]], s) := by
  have h1 : fewestP (fourS 2) = (2, 3) := by kernel_rfl
  have h2 : askedErr (fourS 2) = 0 := by kernel_rfl
  have h := k38 (fourS 2) s
  rw [h1, h2] at h
  exact (call_norm tbl_38 rfl (by kernel_rfl) s).trans h
theorem y38b (s : St) : lim tbl (.call 38 [vSl (fourS 3)]) s = some (.ret, [.tup [.agg [i64 0, i64 0], i64 11]], s) := by
  have h1 : fewestP (fourS 3) = (0, 0) := by kernel_rfl
  have h2 : askedErr (fourS 3) = 11 := by kernel_rfl
  have h := k38 (fourS 3) s
  rw [h1, h2] at h
  exact (call_norm tbl_38 rfl (by kernel_rfl) s).trans h
theorem y41a (s : St) : lim tbl (.call 41 [vSl (fourS 2)]) s = some (.ret, [.tup [.vsl [] 0 .no, i64 0]], s) := by
  have h1 : leaveL (fourS 2) = [] := by kernel_rfl
  have h2 : checkSlate (fourS 2) = 0 := by kernel_rfl
  have h := k41 (fourS 2) s
  rw [h1, h2] at h
  exact (call_norm tbl_41 rfl (by kernel_rfl) s).trans h
theorem y40a (s : St) : lim tbl (.call 40 [vSl (fourS 2)]) s = some (.ret, [.tup [i64 0, i64 7]], s) := by
  have h1 : firstA (fourS 2) = 0 := by kernel_rfl
  have h2 : firstE (fourS 2) = 7 := by kernel_rfl
  have h := k40 (fourS 2) s
  rw [h1, h2] at h
  exact (call_norm tbl_40 rfl (by kernel_rfl) s).trans h
theorem y67a (s : St) : lim tbl (.call 67 [vSl (fourS 0), .vsl [i64 2, i64 2, i64 4] 3 .full, .vsl [i64 2, i64 0, i64 2, i64 2, i64 3, i64 4] 2 .full, i64 2]) s = some (.ret, [.bool true], s) := by
  have h1 : proveS (fourS 0) [2, 2, 4] [⟨2, 0, 2⟩, ⟨2, 3, 4⟩] 2 = true := by kernel_rfl
  have h := k67 (fourS 0) [2, 2, 4] [⟨2, 0, 2⟩, ⟨2, 3, 4⟩] 2 (by simp) s
  rw [h1] at h
  exact (call_norm tbl_67 rfl (by kernel_rfl) s).trans h
theorem y67b (s : St) : lim tbl (.call 67 [vSl (fourS 0), .vsl [i64 2, i64 2, i64 4] 3 .full, .vsl [i64 2, i64 0, i64 2, i64 2, i64 3, i64 4] 2 .full, i64 1]) s = some (.ret, [.bool false], s) := by
  have h1 : proveS (fourS 0) [2, 2, 4] [⟨2, 0, 2⟩, ⟨2, 3, 4⟩] 1 = false := by kernel_rfl
  have h := k67 (fourS 0) [2, 2, 4] [⟨2, 0, 2⟩, ⟨2, 3, 4⟩] 1 (by simp) s
  rw [h1] at h
  exact (call_norm tbl_67 rfl (by kernel_rfl) s).trans h
theorem y67c (s : St) : lim tbl (.call 67 [vSl (fourS 0), .vsl [i64 3, i64 2, i64 4] 3 .full, .vsl [i64 2, i64 0, i64 2, i64 2, i64 3, i64 4] 2 .full, i64 9]) s = some (.ret, [.bool false], s) := by
  have h1 : proveS (fourS 0) [3, 2, 4] [⟨2, 0, 2⟩, ⟨2, 3, 4⟩] 9 = false := by kernel_rfl
  have h := k67 (fourS 0) [3, 2, 4] [⟨2, 0, 2⟩, ⟨2, 3, 4⟩] 9 (by simp) s
  rw [h1] at h
  exact (call_norm tbl_67 rfl (by kernel_rfl) s).trans h
theorem y67d (s : St) : lim tbl (.call 67 [vSl (fourS 0), .vsl [i64 2, i64 2, i64 4] 3 .full, .vsl [i64 2, i64 0, i64 2] 1 .no, i64 9]) s = some (.ret, [.bool false], s) := by
  have h1 : proveS (fourS 0) [2, 2, 4] [⟨2, 0, 2⟩] 9 = false := by kernel_rfl
  have h := k67 (fourS 0) [2, 2, 4] [⟨2, 0, 2⟩] 9 (by simp) s
  rw [h1] at h
  exact (call_norm tbl_67 rfl (by kernel_rfl) s).trans h
theorem y67e (s : St) : lim tbl (.call 67 [vSl (fourS 0), .vsl [i64 2, i64 2, i64 4] 3 .full, .vsl [i64 2, i64 0, i64 2, i64 2, i64 3, i64 5, i64 3, i64 2, i64 1] 3 .full, i64 3]) s = some (.ret, [.bool true], s) := by
  have h1 : proveS (fourS 0) [2, 2, 4] [⟨2, 0, 2⟩, ⟨2, 3, 5⟩, ⟨3, 2, 1⟩] 3 = true := by kernel_rfl
  have h := k67 (fourS 0) [2, 2, 4] [⟨2, 0, 2⟩, ⟨2, 3, 5⟩, ⟨3, 2, 1⟩] 3 (by simp) s
  rw [h1] at h
  exact (call_norm tbl_67 rfl (by kernel_rfl) s).trans h
theorem y67f (s : St) : lim tbl (.call 67 [vSl (fourS 0), .vsl [i64 2, i64 2, i64 4] 3 .full, .vsl [i64 2, i64 0, i64 2, i64 2, i64 3, i64 4, i64 0, i64 1, i64 0] 3 .full, i64 9]) s = some (.ret, [.bool false], s) := by
  have h1 : proveS (fourS 0) [2, 2, 4] [⟨2, 0, 2⟩, ⟨2, 3, 4⟩, ⟨0, 1, 0⟩] 9 = false := by kernel_rfl
  have h := k67 (fourS 0) [2, 2, 4] [⟨2, 0, 2⟩, ⟨2, 3, 4⟩, ⟨0, 1, 0⟩] 9 (by simp) s
  rw [h1] at h
  exact (call_norm tbl_67 rfl (by kernel_rfl) s).trans h
theorem y67g (s : St) : lim tbl (.call 67 [vSl (fourS 0), .vsl [i64 2, i64 2, i64 5] 3 .full, .vsl [i64 2, i64 0, i64 2, i64 2, i64 3, i64 4] 2 .full, i64 9]) s = some (.ret, [.bool false], s) := by
  have h1 : proveS (fourS 0) [2, 2, 5] [⟨2, 0, 2⟩, ⟨2, 3, 4⟩] 9 = false := by kernel_rfl
  have h := k67 (fourS 0) [2, 2, 5] [⟨2, 0, 2⟩, ⟨2, 3, 4⟩] 9 (by simp) s
  rw [h1] at h
  exact (call_norm tbl_67 rfl (by kernel_rfl) s).trans h
theorem y62a (s : St) : lim tbl (.call 62 [vSl (fourS 2), .vsl [i64 3, i64 2, i64 2] 3 .full]) s = some (.ret, [.bool true], s) := by
  have h1 : proveT (fourS 2) [3, 2, 2] = true := by kernel_rfl
  have h := k62 (fourS 2) [3, 2, 2] good_of_check s
  rw [h1] at h
  exact (call_norm tbl_62 rfl (by kernel_rfl) s).trans h
theorem y62b (s : St) : lim tbl (.call 62 [vSl (fourS 2), .vsl [i64 2, i64 2, i64 2] 3 .full]) s = some (.ret, [.bool false], s) := by
  have h1 : proveT (fourS 2) [2, 2, 2] = false := by kernel_rfl
  have h := k62 (fourS 2) [2, 2, 2] good_of_check s
  rw [h1] at h
  exact (call_norm tbl_62 rfl (by kernel_rfl) s).trans h
theorem y62c (s : St) : lim tbl (.call 62 [vSl (fourS 0), .vsl [i64 2, i64 2] 2 .full]) s = some (.ret, [.bool false], s) := by
  have h1 : proveT (fourS 0) [2, 2] = false := by kernel_rfl
  have h := k62 (fourS 0) [2, 2] good_of_check s
  rw [h1] at h
  exact (call_norm tbl_62 rfl (by kernel_rfl) s).trans h
theorem y63 (s : St) : lim tbl (.call 63 [.agg [i64 0, .sl0, .sl0]]) s = some (.ret, [i64 0], s) := by
  have h1 : checkSlate ⟨0, [], []⟩ = 0 := by kernel_rfl
  have h := k63 ⟨0, [], []⟩ s
  rw [h1] at h
  exact (call_norm tbl_63 rfl (by kernel_rfl) s).trans h
theorem get_lit {n : Nat} {O : List AObj} {p : Nat} {q : Nat → Nat} {b : Nat} : St.get ⟨n, O, p, q⟩ b = if b < n then O[n - 1 - b]? else none := rfl
theorem set_lit {n : Nat} {O : List AObj} {p : Nat} {q : Nat → Nat} {b : Nat} {o : AObj} : St.set ⟨n, O, p, q⟩ b o = ⟨n, O.set (n - 1 - b) o, p, q⟩ := rfl
theorem old_lit {n : Nat} {O : List AObj} {p : Nat} {q : Nat → Nat} (h : O.length = n) : old ⟨0, [], 0, q⟩ ⟨n, O, p, q⟩ = true := by
  have := old_of (N := 0) (O := []) (p := 0) (q := q) (l := O) (p' := p) (M := n) (by omega)
  rwa [List.append_nil] at this
theorem na_lit (a b : Nat) : na a b = a + b := rfl
theorem mul_lit (a b : Nat) : Nat.mul a b = a * b := rfl
theorem st_2_2 {a b' c' d g h : AVal} {l : List AVal} {s : St} {b : Nat} : storeP (some (.cells (a :: b' :: c' :: d :: l))) s b 2 [g, h] = some (s.set b (.cells (a :: b' :: g :: h :: l))) := by simp [storeP, splice]
theorem st_2_6 {a0 a1 a2 a3 a4 a5 a6 a7 g h : AVal} {l : List AVal} {s : St} {b : Nat} : storeP (some (.cells (a0 :: a1 :: a2 :: a3 :: a4 :: a5 :: a6 :: a7 :: l))) s b 6 [g, h] = some (s.set b (.cells (a0 :: a1 :: a2 :: a3 :: a4 :: a5 :: g :: h :: l))) := by simp [storeP, splice]

theorem z63_0 {s : St} (h : fz 8 s (.agg [i64 7, sl cE (fourS 0).es, sl cS (fourS 0).ss]) = some (vSl ⟨7, [⟨0, 1, ⟨2, 3⟩⟩, ⟨1, 2, ⟨2, 2⟩⟩, ⟨3, 2, ⟨1, 4⟩⟩], []⟩)) : lim tbl (.call 12351 [.agg [i64 7, sl cE (fourS 0).es, sl cS (fourS 0).ss]]) s = some (.ret, [i64 3], s) := by
  have h0 : checkSlate ⟨7, [⟨0, 1, ⟨2, 3⟩⟩, ⟨1, 2, ⟨2, 2⟩⟩, ⟨3, 2, ⟨1, 4⟩⟩], []⟩ = 3 := by kernel_rfl
  have := k63i (X := ⟨7, [⟨0, 1, ⟨2, 3⟩⟩, ⟨1, 2, ⟨2, 2⟩⟩, ⟨3, 2, ⟨1, 4⟩⟩], []⟩) h
  rwa [h0] at this
theorem z63_1 {s : St} (h : fz 8 s (.agg [i64 4, .hsl 3 0 3 (some 3), .hsl 2 0 0 (some 3)]) = some (vSl ⟨4, [⟨0, 0, ⟨2, 3⟩⟩, ⟨1, 2, ⟨2, 2⟩⟩, ⟨3, 2, ⟨1, 4⟩⟩], []⟩)) : lim tbl (.call 12351 [.agg [i64 4, .hsl 3 0 3 (some 3), .hsl 2 0 0 (some 3)]]) s = some (.ret, [i64 1], s) := by
  have h0 : checkSlate ⟨4, [⟨0, 0, ⟨2, 3⟩⟩, ⟨1, 2, ⟨2, 2⟩⟩, ⟨3, 2, ⟨1, 4⟩⟩], []⟩ = 1 := by kernel_rfl
  have := k63i (X := ⟨4, [⟨0, 0, ⟨2, 3⟩⟩, ⟨1, 2, ⟨2, 2⟩⟩, ⟨3, 2, ⟨1, 4⟩⟩], []⟩) h
  rwa [h0] at this
theorem z63_2 {s : St} (h : fz 8 s (.agg [i64 4, .hsl 6 0 3 (some 3), .hsl 5 0 0 (some 3)]) = some (vSl ⟨4, [⟨0, 4, ⟨2, 3⟩⟩, ⟨1, 2, ⟨2, 2⟩⟩, ⟨3, 2, ⟨1, 4⟩⟩], []⟩)) : lim tbl (.call 12351 [.agg [i64 4, .hsl 6 0 3 (some 3), .hsl 5 0 0 (some 3)]]) s = some (.ret, [i64 1], s) := by
  have h0 : checkSlate ⟨4, [⟨0, 4, ⟨2, 3⟩⟩, ⟨1, 2, ⟨2, 2⟩⟩, ⟨3, 2, ⟨1, 4⟩⟩], []⟩ = 1 := by kernel_rfl
  have := k63i (X := ⟨4, [⟨0, 4, ⟨2, 3⟩⟩, ⟨1, 2, ⟨2, 2⟩⟩, ⟨3, 2, ⟨1, 4⟩⟩], []⟩) h
  rwa [h0] at this
theorem z63_3 {s : St} (h : fz 8 s (.agg [i64 4, .hsl 9 0 3 (some 3), .hsl 8 0 0 (some 3)]) = some (vSl ⟨4, [⟨0, 1, ⟨0, 41⟩⟩, ⟨1, 2, ⟨2, 2⟩⟩, ⟨3, 2, ⟨1, 4⟩⟩], []⟩)) : lim tbl (.call 12351 [.agg [i64 4, .hsl 9 0 3 (some 3), .hsl 8 0 0 (some 3)]]) s = some (.ret, [i64 1], s) := by
  have h0 : checkSlate ⟨4, [⟨0, 1, ⟨0, 41⟩⟩, ⟨1, 2, ⟨2, 2⟩⟩, ⟨3, 2, ⟨1, 4⟩⟩], []⟩ = 1 := by kernel_rfl
  have := k63i (X := ⟨4, [⟨0, 1, ⟨0, 41⟩⟩, ⟨1, 2, ⟨2, 2⟩⟩, ⟨3, 2, ⟨1, 4⟩⟩], []⟩) h
  rwa [h0] at this
theorem z63_4 {s : St} (h : fz 8 s (.agg [i64 4, .hsl 12 0 3 (some 3), .hsl 11 0 1 (some 3)]) = some (vSl ⟨4, [⟨0, 1, ⟨2, 3⟩⟩, ⟨1, 2, ⟨2, 2⟩⟩, ⟨3, 2, ⟨1, 4⟩⟩], [⟨4, ⟨-4, -3⟩⟩]⟩)) : lim tbl (.call 12351 [.agg [i64 4, .hsl 12 0 3 (some 3), .hsl 11 0 1 (some 3)]]) s = some (.ret, [i64 1], s) := by
  have h0 : checkSlate ⟨4, [⟨0, 1, ⟨2, 3⟩⟩, ⟨1, 2, ⟨2, 2⟩⟩, ⟨3, 2, ⟨1, 4⟩⟩], [⟨4, ⟨-4, -3⟩⟩]⟩ = 1 := by kernel_rfl
  have := k63i (X := ⟨4, [⟨0, 1, ⟨2, 3⟩⟩, ⟨1, 2, ⟨2, 2⟩⟩, ⟨3, 2, ⟨1, 4⟩⟩], [⟨4, ⟨-4, -3⟩⟩]⟩) h
  rwa [h0] at this
theorem z63_5 {s : St} (h : fz 8 s (.agg [i64 4, .hsl 15 0 3 (some 3), .hsl 14 0 1 (some 3)]) = some (vSl ⟨4, [⟨0, 1, ⟨2, 3⟩⟩, ⟨1, 2, ⟨2, 2⟩⟩, ⟨3, 2, ⟨1, 4⟩⟩], [⟨2, ⟨-241, 0⟩⟩]⟩)) : lim tbl (.call 12351 [.agg [i64 4, .hsl 15 0 3 (some 3), .hsl 14 0 1 (some 3)]]) s = some (.ret, [i64 1], s) := by
  have h0 : checkSlate ⟨4, [⟨0, 1, ⟨2, 3⟩⟩, ⟨1, 2, ⟨2, 2⟩⟩, ⟨3, 2, ⟨1, 4⟩⟩], [⟨2, ⟨-241, 0⟩⟩]⟩ = 1 := by kernel_rfl
  have := k63i (X := ⟨4, [⟨0, 1, ⟨2, 3⟩⟩, ⟨1, 2, ⟨2, 2⟩⟩, ⟨3, 2, ⟨1, 4⟩⟩], [⟨2, ⟨-241, 0⟩⟩]⟩) h
  rwa [h0] at this
theorem z63_6 {s : St} (h : fz 8 s (.agg [i64 (fourS 0).women, .hsl 28 0 7 (some 7), sl cS (fourS 0).ss]) = some (vSl ⟨4, [⟨0, 0, ⟨0, 0⟩⟩, ⟨0, 0, ⟨0, 0⟩⟩, ⟨0, 0, ⟨0, 0⟩⟩, ⟨0, 0, ⟨0, 0⟩⟩, ⟨0, 0, ⟨0, 0⟩⟩, ⟨0, 0, ⟨0, 0⟩⟩, ⟨0, 0, ⟨0, 0⟩⟩], []⟩)) : lim tbl (.call 12351 [.agg [i64 (fourS 0).women, .hsl 28 0 7 (some 7), sl cS (fourS 0).ss]]) s = some (.ret, [i64 3], s) := by
  have h0 : checkSlate ⟨4, [⟨0, 0, ⟨0, 0⟩⟩, ⟨0, 0, ⟨0, 0⟩⟩, ⟨0, 0, ⟨0, 0⟩⟩, ⟨0, 0, ⟨0, 0⟩⟩, ⟨0, 0, ⟨0, 0⟩⟩, ⟨0, 0, ⟨0, 0⟩⟩, ⟨0, 0, ⟨0, 0⟩⟩], []⟩ = 3 := by kernel_rfl
  have := k63i (X := ⟨4, [⟨0, 0, ⟨0, 0⟩⟩, ⟨0, 0, ⟨0, 0⟩⟩, ⟨0, 0, ⟨0, 0⟩⟩, ⟨0, 0, ⟨0, 0⟩⟩, ⟨0, 0, ⟨0, 0⟩⟩, ⟨0, 0, ⟨0, 0⟩⟩, ⟨0, 0, ⟨0, 0⟩⟩], []⟩) h
  rwa [h0] at this
theorem z63_7 {s : St} (h : fz 8 s (.agg [i64 (fourS 0).women, sl cE (fourS 0).es, .hsl 29 0 6 (some 6)]) = some (vSl ⟨4, [⟨0, 1, ⟨2, 3⟩⟩, ⟨1, 2, ⟨2, 2⟩⟩, ⟨3, 2, ⟨1, 4⟩⟩], [⟨0, ⟨0, 0⟩⟩, ⟨0, ⟨0, 0⟩⟩, ⟨0, ⟨0, 0⟩⟩, ⟨0, ⟨0, 0⟩⟩, ⟨0, ⟨0, 0⟩⟩, ⟨0, ⟨0, 0⟩⟩]⟩)) : lim tbl (.call 12351 [.agg [i64 (fourS 0).women, sl cE (fourS 0).es, .hsl 29 0 6 (some 6)]]) s = some (.ret, [i64 3], s) := by
  have h0 : checkSlate ⟨4, [⟨0, 1, ⟨2, 3⟩⟩, ⟨1, 2, ⟨2, 2⟩⟩, ⟨3, 2, ⟨1, 4⟩⟩], [⟨0, ⟨0, 0⟩⟩, ⟨0, ⟨0, 0⟩⟩, ⟨0, ⟨0, 0⟩⟩, ⟨0, ⟨0, 0⟩⟩, ⟨0, ⟨0, 0⟩⟩, ⟨0, ⟨0, 0⟩⟩]⟩ = 3 := by kernel_rfl
  have := k63i (X := ⟨4, [⟨0, 1, ⟨2, 3⟩⟩, ⟨1, 2, ⟨2, 2⟩⟩, ⟨3, 2, ⟨1, 4⟩⟩], [⟨0, ⟨0, 0⟩⟩, ⟨0, ⟨0, 0⟩⟩, ⟨0, ⟨0, 0⟩⟩, ⟨0, ⟨0, 0⟩⟩, ⟨0, ⟨0, 0⟩⟩, ⟨0, ⟨0, 0⟩⟩]⟩) h
  rwa [h0] at this
theorem z63_8 {s : St} (h : fz 8 s (.agg [i64 4, .hsl 18 0 3 (some 3), .hsl 17 0 0 (some 3)]) = some (vSl ⟨4, [⟨0, 1, ⟨0, 40⟩⟩, ⟨1, 2, ⟨0, 12⟩⟩, ⟨3, 2, ⟨1, 4⟩⟩], []⟩)) : lim tbl (.call 12351 [.agg [i64 4, .hsl 18 0 3 (some 3), .hsl 17 0 0 (some 3)]]) s = some (.ret, [i64 3], s) := by
  have h0 : checkSlate ⟨4, [⟨0, 1, ⟨0, 40⟩⟩, ⟨1, 2, ⟨0, 12⟩⟩, ⟨3, 2, ⟨1, 4⟩⟩], []⟩ = 3 := by kernel_rfl
  have := k63i (X := ⟨4, [⟨0, 1, ⟨0, 40⟩⟩, ⟨1, 2, ⟨0, 12⟩⟩, ⟨3, 2, ⟨1, 4⟩⟩], []⟩) h
  rwa [h0] at this
theorem k20 : lim tbl (.call 20 []) ⟨0, [], 0, fun _ => 0⟩ = some (.ret, [.bool true], ⟨0, [], 0, fun _ => 0⟩) := by
  have a1 := fun s => x43 [2, 0, -6, 4] [i64 2, i64 0, i64 (-6), i64 4] 4 rfl rfl (by simp) s
  have a2 := fun s => x43 [0, 2, 3] [i64 0, i64 2, i64 3] 3 rfl rfl (by simp) s
  have l2 : lenOf ([⟨2, 0, 3⟩, ⟨1, 3, 1⟩] : List Pay) = 2 := rfl
  have h22 := fun s => k22 s
  rw [lim_call tbl_20]
  (try simp only [go_sem, ↓reduceIte, Nat.reduceAdd, Nat.reduceEqDiff, Nat.reduceLT, Nat.reduceLeDiff, Nat.reduceBEq, Int.reduceEq, Int.reduceLT, Int.reduceLE]); (repeat ((first | simp only [k71_0, k71_1, k71_2, k71_3, k71v1_0, k71v1_1] | simp only [y52a, y52b, y53a, y53b, y30a, y30b, y23a, y23b, y25b, y38a, y38b, y41a, y40a, y67a, y67b, y67c, y67d, y67e, y67f, y67g, y62a, y62b, y62c, y63] | simp only [a1, a2] | rw [l2] | simp only [hi6_1, mk7, mk6] | simp only [na_lit, get_lit, set_lit, mul_lit, Nat.reduceAdd, Nat.reduceSub, Nat.reduceMul, Nat.reduceLT, ↓reduceIte, List.getElem?_cons_succ, List.getElem?_cons_zero, List.set_cons_succ, List.set_cons_zero, cellsE4, cellsS4] | simp only [st_2_2, st_2_6] | (rw [z63_0]; rotate_left; (kernel_rfl)) | (rw [z63_1]; rotate_left; (kernel_rfl)) | (rw [z63_2]; rotate_left; (kernel_rfl)) | (rw [z63_3]; rotate_left; (kernel_rfl)) | (rw [z63_4]; rotate_left; (kernel_rfl)) | (rw [z63_5]; rotate_left; (kernel_rfl)) | (rw [z63_6]; rotate_left; (kernel_rfl)) | (rw [z63_7]; rotate_left; (kernel_rfl)) | (rw [z63_8]; rotate_left; (kernel_rfl)) | simp only [h22] | (rw [old_lit]; rotate_left; (rfl)) | (rw [lt_yes]; rotate_left; (first | omega | (simp [lenOf, app]; omega) | (simp only [lenOf]; omega))) | (rw [lt_no]; rotate_left; (first | omega | (simp [lenOf, app]; omega) | (simp only [lenOf]; omega))) | (rw [idxA_at]; rotate_left; (first | omega | (simp [lenOf, app]; omega) | (simp only [lenOf]; omega))) | (rw [wr_up]; rotate_left; (first | omega | (simp [lenOf, app]; omega) | (simp only [lenOf]; omega))) | ((first | rw [drop_cI] | rw [drop_cE] | rw [drop_cS] | rw [drop_cP] | rw [drop_cR]); rotate_left; assumption)); try simp only [go_sem, ↓reduceIte, Nat.reduceAdd, Nat.reduceEqDiff, Nat.reduceLT, Nat.reduceLeDiff, Nat.reduceBEq, Int.reduceEq, Int.reduceLT, Int.reduceLE]))
theorem Try_own : ownKnob Try.prog.godebug = none := by kernel_rfl
theorem names_lifted (os : Os) (started : os.Started) (H : Type) (enc : TypeId × Value → H) :
    ReturnsInHanded {} Try.checked os 20 .any (Ytlhfeiacigmliaa.Rows.soapNamesSpec.pre6 enc Try.prog Try.f20 Ytlhfeiacigmliaa.Rows.soapNamesRow.domain false) (Ytlhfeiacigmliaa.Rows.soapNamesSpec.post enc Try.prog Try.f20 false true false false) := by
  refine returnsInHanded_of_change (C := Try.checked) Try_own started (by kernel_rfl) Try.func20
    (ChangeSpec.witness6 (enc := enc) (C := Try.checked) false ⟨#[], #[], []⟩ 8 (by kernel_rfl) (by kernel_rfl) (by kernel_rfl) (by kernel_rfl)) ?_
  intro W base args ds gs before hval0 hW hcnd _
  have hW' := hW
  obtain ⟨p, q, hA0, hV, rfl, hfz, hnd⟩ := hW
  have hA : DataW.TrodAll enc Try.prog W 0 (fun _ => true) true Try.f20.params.toList args.toList ds p := hA0
  rw [Try.params20] at hA
  obtain ⟨ha, rfl, rfl⟩ := trodAll_nil hA
  have ha : args = #[] := by cases args; simp only at ha; rw [ha]
  subst ha
  obtain ⟨rfl, rfl⟩ := trodVars_none hV
  refine (sound_lim tbl_ok k20 (sim0 Try.prog W) (args' := #[]) rfl).mono fun e W' he => ?_
  obtain ⟨v', ρ', he, hv, _, hF⟩ := he
  subst he
  have hv : v' = .bool true := hv
  subst hv
  exact ⟨_, rfl, shut_true hW' rfl rfl (by rw [Try.params20]; intro t ht; simp at ht) rfl rfl rfl hF⟩
theorem names_holds : Ytlhfeiacigmliaa.Rows.SoapNamesSaid :=
  OpenClaim.holds_of_wide 20 Try.f20 rfl rfl rfl rfl rfl rfl rfl ⟨rfl, rfl, rfl, rfl, rfl⟩ rfl rfl rfl rfl rfl (by kernel_rfl) Try.func20 (by kernel_rfl)
    (of_decide_eq_true (by kernel_rfl)) (by unfold Func.isWrapper; first | (rw [if_pos (by decide +kernel)]; kernel_rfl) | (rw [if_neg (by decide +kernel)]; exact ⟨rfl, rfl⟩))
    (fun os started H enc _ => names_lifted os started H enc)
#print axioms names_holds
end Go.Proofs.Ytlhfeiacigmliaa
