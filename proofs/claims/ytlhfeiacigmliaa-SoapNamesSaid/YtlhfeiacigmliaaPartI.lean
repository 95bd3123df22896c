/- The wash-house's soap: what the functions compute: payments that settle. -/
import Derived.Test.YtlhfeiacigmliaaPartH
import Derived.Test.YtlhfeiacigmliaaPartG
import Derived.Test.YtlhfeiacigmliaaRows
import Derived.ProofKit
set_option linter.all false
namespace Go.Proofs.Ytlhfeiacigmliaa
open Go
set_option maxRecDepth 10000

theorem k115 (a : Nat → Int) (b j : Nat) (hj : j < 6) (s : St) (hg : s.get b = some (.cells (c6 a))) : lim tbl (.call 115 [i64 (Int.ofNat j), .ptr b 0]) s = some (.ret, [.bool (decide (a j < 0))], s) := by
  have hn := nthO_c6 a hj
  have hi : idxA (i64 (Int.ofNat j)) 6 = some j := idxA_at hj
  rw [lim_call tbl_115]; obtain ⟨N, O, p, q⟩ := s
  (try simp only [go_sem, ↓reduceIte, Nat.reduceAdd, Nat.reduceEqDiff, Nat.reduceLT, Nat.reduceLeDiff, Nat.reduceBEq, Int.reduceEq, Int.reduceLT, Int.reduceLE]); (repeat ((first | rw [hi] | rw [hg] | rw [hn] | (rw [lt_yes]; rotate_left; (first | omega | (simp [lenOf, app]; omega) | (simp only [lenOf]; omega))) | (rw [lt_no]; rotate_left; (first | omega | (simp [lenOf, app]; omega) | (simp only [lenOf]; omega))) | (rw [idxA_at]; rotate_left; (first | omega | (simp [lenOf, app]; omega) | (simp only [lenOf]; omega))) | (rw [wr_up]; rotate_left; (first | omega | (simp [lenOf, app]; omega) | (simp only [lenOf]; omega))) | ((first | rw [drop_cI] | rw [drop_cE] | rw [drop_cS] | rw [drop_cP] | rw [drop_cR]); rotate_left; assumption)); try simp only [go_sem, ↓reduceIte, Nat.reduceAdd, Nat.reduceEqDiff, Nat.reduceLT, Nat.reduceLeDiff, Nat.reduceBEq, Int.reduceEq, Int.reduceLT, Int.reduceLE]))
theorem k116 (a : Nat → Int) (b j : Nat) (hj : j < 6) (s : St) (hg : s.get b = some (.cells (c6 a))) : lim tbl (.call 116 [i64 (Int.ofNat j), .ptr b 0]) s = some (.ret, [.bool (decide (0 < a j))], s) := by
  have hn := nthO_c6 a hj
  have hi : idxA (i64 (Int.ofNat j)) 6 = some j := idxA_at hj
  rw [lim_call tbl_116]; obtain ⟨N, O, p, q⟩ := s
  (try simp only [go_sem, ↓reduceIte, Nat.reduceAdd, Nat.reduceEqDiff, Nat.reduceLT, Nat.reduceLeDiff, Nat.reduceBEq, Int.reduceEq, Int.reduceLT, Int.reduceLE]); (repeat ((first | rw [hi] | rw [hg] | rw [hn] | (rw [lt_yes]; rotate_left; (first | omega | (simp [lenOf, app]; omega) | (simp only [lenOf]; omega))) | (rw [lt_no]; rotate_left; (first | omega | (simp [lenOf, app]; omega) | (simp only [lenOf]; omega))) | (rw [idxA_at]; rotate_left; (first | omega | (simp [lenOf, app]; omega) | (simp only [lenOf]; omega))) | (rw [wr_up]; rotate_left; (first | omega | (simp [lenOf, app]; omega) | (simp only [lenOf]; omega))) | ((first | rw [drop_cI] | rw [drop_cE] | rw [drop_cS] | rw [drop_cP] | rw [drop_cR]); rotate_left; assumption)); try simp only [go_sem, ↓reduceIte, Nat.reduceAdd, Nat.reduceEqDiff, Nat.reduceLT, Nat.reduceLeDiff, Nat.reduceBEq, Int.reduceEq, Int.reduceLT, Int.reduceLE]))
theorem l114 {P : Nat → Bool} {G : AVal} (s : St) (gs : List Nat) (hl : gs.length < 1000000) (hG : ∀ e ∈ gs, callA (lim tbl) G [i64 (Int.ofNat e)] s = some (.bool (P e), s)) : ∀ (k i : Nat), i + k = gs.length → ∀ R,
    R = (match (gs.drop i).findIdx? P with | some j => some (.ret, [i64 (Int.ofNat (i + j))], s) | none => some (.exit 0, [], s)) →
    lim tbl (.loop a114_l0 19 ⟨[0, 1, 7, 8], [], [4]⟩ [sl cI (ints gs), G, i64 (Int.ofNat (lenOf (ints gs))), i64 (Int.ofNat i)]) s = R := by
  intro k
  have hlm : lenOf (ints gs) = gs.length := by simp [lenOf, ints]
  induction k with
  | zero =>
    intro i hi R hR
    rw [List.drop_eq_nil_of_le (by omega)] at hR
    simp only [List.findIdx?_nil] at hR
    rw [lim_loop]; obtain ⟨N, O, p, q⟩ := s
    (try simp only [go_sem, ↓reduceIte, Nat.reduceAdd, Nat.reduceEqDiff, Nat.reduceLT, Nat.reduceLeDiff, Nat.reduceBEq, Int.reduceEq, Int.reduceLT, Int.reduceLE]); (repeat ((first | (rw [lt_yes]; rotate_left; (first | omega | (simp [lenOf, app]; omega) | (simp only [lenOf]; omega))) | (rw [lt_no]; rotate_left; (first | omega | (simp [lenOf, app]; omega) | (simp only [lenOf]; omega))) | (rw [idxA_at]; rotate_left; (first | omega | (simp [lenOf, app]; omega) | (simp only [lenOf]; omega))) | (rw [wr_up]; rotate_left; (first | omega | (simp [lenOf, app]; omega) | (simp only [lenOf]; omega))) | ((first | rw [drop_cI] | rw [drop_cE] | rw [drop_cS] | rw [drop_cP] | rw [drop_cR]); rotate_left; assumption)); try simp only [go_sem, ↓reduceIte, Nat.reduceAdd, Nat.reduceEqDiff, Nat.reduceLT, Nat.reduceLeDiff, Nat.reduceBEq, Int.reduceEq, Int.reduceLT, Int.reduceLE]))
    exact hR.symm
  | succ k ih =>
    intro i hi R hR
    have hlt : i < gs.length := by omega
    obtain ⟨e, he, hd⟩ := getElem_drop hlt
    have he' := map_get he
    have hGe := hG e (List.mem_of_getElem? he)
    have hix : idxA (i64 (Int.ofNat i)) (lenOf (ints gs)) = some i := idxA_at (by simp [lenOf, ints]; omega)
    rw [hd, List.findIdx?_cons] at hR
    rw [lim_loop]
    cases hP : P e with
    | true =>
      rw [hP] at hGe hR
      simp only [if_true, Nat.add_zero] at hR
      obtain ⟨N, O, p, q⟩ := s
      (try simp only [go_sem, ↓reduceIte, Nat.reduceAdd, Nat.reduceEqDiff, Nat.reduceLT, Nat.reduceLeDiff, Nat.reduceBEq, Int.reduceEq, Int.reduceLT, Int.reduceLE]); (repeat ((first | rw [hix] | rw [hGe] | (rw [lt_yes]; rotate_left; (first | omega | (simp [lenOf, app]; omega) | (simp only [lenOf]; omega))) | (rw [lt_no]; rotate_left; (first | omega | (simp [lenOf, app]; omega) | (simp only [lenOf]; omega))) | (rw [idxA_at]; rotate_left; (first | omega | (simp [lenOf, app]; omega) | (simp only [lenOf]; omega))) | (rw [wr_up]; rotate_left; (first | omega | (simp [lenOf, app]; omega) | (simp only [lenOf]; omega))) | ((first | rw [drop_cI] | rw [drop_cE] | rw [drop_cS] | rw [drop_cP] | rw [drop_cR]); rotate_left; assumption)); try simp only [go_sem, ↓reduceIte, Nat.reduceAdd, Nat.reduceEqDiff, Nat.reduceLT, Nat.reduceLeDiff, Nat.reduceBEq, Int.reduceEq, Int.reduceLT, Int.reduceLE]))
      exact hR.symm
    | false =>
      rw [hP] at hGe hR
      have h' := ih (i + 1) (by omega) R (by
        rw [hR]; simp only [Bool.false_eq_true, if_false]
        cases (gs.drop (i + 1)).findIdx? P with
        | none => rfl
        | some j => simp only [Option.map_some]; rw [show i + (j + 1) = i + 1 + j by omega])
      obtain ⟨N, O, p, q⟩ := s
      (try simp only [go_sem, ↓reduceIte, Nat.reduceAdd, Nat.reduceEqDiff, Nat.reduceLT, Nat.reduceLeDiff, Nat.reduceBEq, Int.reduceEq, Int.reduceLT, Int.reduceLE]); (repeat ((first | rw [hix] | rw [hGe] | (rw [lt_yes]; rotate_left; (first | omega | (simp [lenOf, app]; omega) | (simp only [lenOf]; omega))) | (rw [lt_no]; rotate_left; (first | omega | (simp [lenOf, app]; omega) | (simp only [lenOf]; omega))) | (rw [idxA_at]; rotate_left; (first | omega | (simp [lenOf, app]; omega) | (simp only [lenOf]; omega))) | (rw [wr_up]; rotate_left; (first | omega | (simp [lenOf, app]; omega) | (simp only [lenOf]; omega))) | ((first | rw [drop_cI] | rw [drop_cE] | rw [drop_cS] | rw [drop_cP] | rw [drop_cR]); rotate_left; assumption)); try simp only [go_sem, ↓reduceIte, Nat.reduceAdd, Nat.reduceEqDiff, Nat.reduceLT, Nat.reduceLeDiff, Nat.reduceBEq, Int.reduceEq, Int.reduceLT, Int.reduceLE]))
      exact h'
theorem k114 {P : Nat → Bool} {f : Nat} {b : Nat} (s : St) (gs : List Nat) (hl : gs.length < 1000000) (hG : ∀ e ∈ gs, callA (lim tbl) (.fn (.func f) [] [.ptr b 0]) [i64 (Int.ofNat e)] s = some (.bool (P e), s)) :
    lim tbl (.call 114 [sl cI (ints gs), .fn (.func f) [] [.ptr b 0]]) s = some (.ret, [i64 (match gs.findIdx? P with | some j => Int.ofNat j | none => -1)], s) := by
  have h0 := l114 s gs hl hG gs.length 0 (by omega) _ rfl
  rw [List.drop_zero, ofNat_0] at h0
  rw [lim_call tbl_114]; obtain ⟨N, O, p, q⟩ := s
  cases hf : gs.findIdx? P with
  | some j =>
    rw [hf] at h0
    simp only [Nat.zero_add] at h0 ⊢
    (try simp only [go_sem, ↓reduceIte, Nat.reduceAdd, Nat.reduceEqDiff, Nat.reduceLT, Nat.reduceLeDiff, Nat.reduceBEq, Int.reduceEq, Int.reduceLT, Int.reduceLE]); (repeat ((first | rw [h0] | (rw [lt_yes]; rotate_left; (first | omega | (simp [lenOf, app]; omega) | (simp only [lenOf]; omega))) | (rw [lt_no]; rotate_left; (first | omega | (simp [lenOf, app]; omega) | (simp only [lenOf]; omega))) | (rw [idxA_at]; rotate_left; (first | omega | (simp [lenOf, app]; omega) | (simp only [lenOf]; omega))) | (rw [wr_up]; rotate_left; (first | omega | (simp [lenOf, app]; omega) | (simp only [lenOf]; omega))) | ((first | rw [drop_cI] | rw [drop_cE] | rw [drop_cS] | rw [drop_cP] | rw [drop_cR]); rotate_left; assumption)); try simp only [go_sem, ↓reduceIte, Nat.reduceAdd, Nat.reduceEqDiff, Nat.reduceLT, Nat.reduceLeDiff, Nat.reduceBEq, Int.reduceEq, Int.reduceLT, Int.reduceLE]))
  | none =>
    rw [hf] at h0
    simp only at h0 ⊢
    (try simp only [go_sem, ↓reduceIte, Nat.reduceAdd, Nat.reduceEqDiff, Nat.reduceLT, Nat.reduceLeDiff, Nat.reduceBEq, Int.reduceEq, Int.reduceLT, Int.reduceLE]); (repeat ((first | rw [h0] | (rw [lt_yes]; rotate_left; (first | omega | (simp [lenOf, app]; omega) | (simp only [lenOf]; omega))) | (rw [lt_no]; rotate_left; (first | omega | (simp [lenOf, app]; omega) | (simp only [lenOf]; omega))) | (rw [idxA_at]; rotate_left; (first | omega | (simp [lenOf, app]; omega) | (simp only [lenOf]; omega))) | (rw [wr_up]; rotate_left; (first | omega | (simp [lenOf, app]; omega) | (simp only [lenOf]; omega))) | ((first | rw [drop_cI] | rw [drop_cE] | rw [drop_cS] | rw [drop_cP] | rw [drop_cR]); rotate_left; assumption)); try simp only [go_sem, ↓reduceIte, Nat.reduceAdd, Nat.reduceEqDiff, Nat.reduceLT, Nat.reduceLeDiff, Nat.reduceBEq, Int.reduceEq, Int.reduceLT, Int.reduceLE]))
/-- The payments that settle a group. -/
def settleF : Nat → (Nat → Int) → List Nat → List Pay
  | 0, _, _ => []
  | f + 1, a, gs => match gs.findIdx? (fun j => decide (a j < 0)), gs.findIdx? (fun j => decide (0 < a j)) with
    | some i, some k =>
      let x := gs.getD i 0
      let y := gs.getD k 0
      let n := mn (-a x) (a y)
      ⟨Int.ofNat x, Int.ofNat y, n⟩ :: settleF f (put (put a x (a x + n)) y (put a x (a x + n) y - n)) gs
    | _, _ => []
/-- How many of a group are owed something. -/
def openC (a : Nat → Int) : List Nat → Nat
  | [] => 0
  | j :: gs => (if a j = 0 then 0 else 1) + openC a gs
theorem find_get {gs : List Nat} {P : Nat → Bool} {i : Nat} (h : gs.findIdx? P = some i) : ∃ hi : i < gs.length, P gs[i] = true := by
  rw [List.findIdx?_eq_some_iff_getElem] at h
  exact ⟨h.1, h.2.1⟩
theorem openC_le {a a' : Nat → Int} : ∀ {gs : List Nat} (_ : ∀ j ∈ gs, a j = 0 → a' j = 0), openC a' gs ≤ openC a gs
  | [], _ => Nat.le_refl _
  | y :: gs, h => by
    have ih := openC_le (gs := gs) fun j hj => h j (by simp [hj])
    have hy := h y (by simp)
    simp only [openC]
    split <;> split <;> first | omega | (rename_i h1 h2; exact absurd (hy h2) h1)
theorem openC_lt {a a' : Nat → Int} {gs : List Nat} (h : ∀ j ∈ gs, a j = 0 → a' j = 0) {j : Nat} (hj : j ∈ gs) (h1 : a j ≠ 0) (h2 : a' j = 0) : openC a' gs < openC a gs := by
  induction gs with
  | nil => simp at hj
  | cons x gs ih =>
    simp only [openC]
    by_cases hx : x = j
    · subst hx
      have := openC_le (gs := gs) fun j hj => h j (by simp [hj])
      rw [if_pos h2, if_neg h1]; omega
    · have hj' : j ∈ gs := by
        simp only [List.mem_cons] at hj
        rcases hj with hj | hj
        · exact absurd hj.symm hx
        · exact hj
      have ih' := ih (fun j hj => h j (by simp [hj])) hj'
      have hy := h x (by simp)
      split <;> split <;> first | omega | (rename_i g1 g2; exact absurd (hy g2) g1)
theorem openC_len (a : Nat → Int) : ∀ gs : List Nat, openC a gs ≤ gs.length
  | [] => Nat.le_refl _
  | j :: gs => by have := openC_len a gs; simp only [openC, List.length_cons]; split <;> omega
def Small (a : Nat → Int) : Prop := ∀ j, -1000000000 ≤ a j ∧ a j ≤ 1000000000
theorem l91 (gs : List Nat) (hgs : ∀ j ∈ gs, j < 6) (hl : gs.length < 1000) (N : Nat) (O : List AObj) (p : Nat) (q : Nat → Nat) : ∀ (f : Nat) (a : Nat → Int) (acc : List Pay), openC a gs < f → acc.length + f < 10000 → Small a →
    ∃ a', lim tbl (.loop a91_l0 64 ⟨[1, 4, 5], [], [4]⟩ [sl cI (ints gs), ownSl cP p acc, .ptr N 0]) ⟨na N 1, .cells (c6 a) :: O, roomP p (lenOf acc), roomC p q (lenOf acc)⟩
      = some (.ret, [ownSl cP p (app acc (settleF f a gs))], ⟨na N 1, .cells (c6 a') :: O, roomP p (lenOf (app acc (settleF f a gs))), roomC p q (lenOf (app acc (settleF f a gs)))⟩) := by
  intro f
  induction f with
  | zero => intro a acc h; omega
  | succ f ih =>
    intro a acc hf hacc hs
    have hG1 : ∀ p' q', ∀ e ∈ gs, callA (lim tbl) (.fn (.func 115) [] [.ptr N 0]) [i64 (Int.ofNat e)] ⟨na N 1, .cells (c6 a) :: O, p', q'⟩ = some (.bool (decide (a e < 0)), ⟨na N 1, .cells (c6 a) :: O, p', q'⟩) := fun p' q' e he => by
      have := k115 a N e (hgs e he) ⟨na N 1, .cells (c6 a) :: O, p', q'⟩ (get_1_0 ..)
      show (if 115 < 4096 then one (lim tbl (.call 115 [i64 (Int.ofNat e), .ptr N 0]) _) else none) = _
      rw [if_pos (by omega), this]; rfl
    have hG2 : ∀ p' q', ∀ e ∈ gs, callA (lim tbl) (.fn (.func 116) [] [.ptr N 0]) [i64 (Int.ofNat e)] ⟨na N 1, .cells (c6 a) :: O, p', q'⟩ = some (.bool (decide (0 < a e)), ⟨na N 1, .cells (c6 a) :: O, p', q'⟩) := fun p' q' e he => by
      have := k116 a N e (hgs e he) ⟨na N 1, .cells (c6 a) :: O, p', q'⟩ (get_1_0 ..)
      show (if 116 < 4096 then one (lim tbl (.call 116 [i64 (Int.ofNat e), .ptr N 0]) _) else none) = _
      rw [if_pos (by omega), this]; rfl
    have c1 := fun p' q' => k114 (P := fun j => decide (a j < 0)) ⟨na N 1, .cells (c6 a) :: O, p', q'⟩ gs (by omega) (hG1 p' q')
    have c2 := fun p' q' => k114 (P := fun j => decide (0 < a j)) ⟨na N 1, .cells (c6 a) :: O, p', q'⟩ gs (by omega) (hG2 p' q')
    have hneg : ((-1 : Int) < 0) := by omega
    rw [settleF]
    cases h1 : gs.findIdx? (fun j => decide (a j < 0)) with
    | none =>
      rw [h1] at c1
      refine ⟨a, ?_⟩
      simp only [app_nil] at c1 ⊢
      rw [lim_loop]
      (try simp only [go_sem, ↓reduceIte, Nat.reduceAdd, Nat.reduceEqDiff, Nat.reduceLT, Nat.reduceLeDiff, Nat.reduceBEq, Int.reduceEq, Int.reduceLT, Int.reduceLE]); (repeat ((first | rw [c1] | rw [c2] | rw [lt_y hneg] | (rw [lt_yes]; rotate_left; (first | omega | (simp [lenOf, app]; omega) | (simp only [lenOf]; omega))) | (rw [lt_no]; rotate_left; (first | omega | (simp [lenOf, app]; omega) | (simp only [lenOf]; omega))) | (rw [idxA_at]; rotate_left; (first | omega | (simp [lenOf, app]; omega) | (simp only [lenOf]; omega))) | (rw [wr_up]; rotate_left; (first | omega | (simp [lenOf, app]; omega) | (simp only [lenOf]; omega))) | ((first | rw [drop_cI] | rw [drop_cE] | rw [drop_cS] | rw [drop_cP] | rw [drop_cR]); rotate_left; assumption)); try simp only [go_sem, ↓reduceIte, Nat.reduceAdd, Nat.reduceEqDiff, Nat.reduceLT, Nat.reduceLeDiff, Nat.reduceBEq, Int.reduceEq, Int.reduceLT, Int.reduceLE]))
    | some i =>
      rw [h1] at c1
      have hi0 : ¬ (Int.ofNat i) < 0 := by simp
      cases h2 : gs.findIdx? (fun j => decide (0 < a j)) with
      | none =>
        rw [h2] at c2
        refine ⟨a, ?_⟩
        simp only [app_nil] at c1 c2 ⊢
        rw [lim_loop]
        (try simp only [go_sem, ↓reduceIte, Nat.reduceAdd, Nat.reduceEqDiff, Nat.reduceLT, Nat.reduceLeDiff, Nat.reduceBEq, Int.reduceEq, Int.reduceLT, Int.reduceLE]); (repeat ((first | rw [c1] | rw [c2] | rw [lt_n hi0] | rw [lt_y hneg] | (rw [lt_yes]; rotate_left; (first | omega | (simp [lenOf, app]; omega) | (simp only [lenOf]; omega))) | (rw [lt_no]; rotate_left; (first | omega | (simp [lenOf, app]; omega) | (simp only [lenOf]; omega))) | (rw [idxA_at]; rotate_left; (first | omega | (simp [lenOf, app]; omega) | (simp only [lenOf]; omega))) | (rw [wr_up]; rotate_left; (first | omega | (simp [lenOf, app]; omega) | (simp only [lenOf]; omega))) | ((first | rw [drop_cI] | rw [drop_cE] | rw [drop_cS] | rw [drop_cP] | rw [drop_cR]); rotate_left; assumption)); try simp only [go_sem, ↓reduceIte, Nat.reduceAdd, Nat.reduceEqDiff, Nat.reduceLT, Nat.reduceLeDiff, Nat.reduceBEq, Int.reduceEq, Int.reduceLT, Int.reduceLE]))
      | some k =>
        rw [h2] at c2
        have hk0 : ¬ (Int.ofNat k) < 0 := by simp
        obtain ⟨hil, hia⟩ := find_get h1
        obtain ⟨hkl, hka⟩ := find_get h2
        simp only [decide_eq_true_eq] at hia hka
        have gx : gs.getD i 0 = gs[i] := by simp [hil]
        have gy : gs.getD k 0 = gs[k] := by simp [hkl]
        simp only [gx, gy]
        have mx' : gs[i] ∈ gs := List.getElem_mem hil
        have my' : gs[k] ∈ gs := List.getElem_mem hkl
        have ix : (ints gs)[i]? = some (Int.ofNat gs[i]) := map_get (List.getElem?_eq_getElem hil)
        have iy : (ints gs)[k]? = some (Int.ofNat gs[k]) := map_get (List.getElem?_eq_getElem hkl)
        generalize gs[i] = x at hia mx' ix ⊢
        generalize gs[k] = y at hka my' iy ⊢
        have hx6 := hgs x mx'
        have hy6 := hgs y my'
        have hxy : x ≠ y := fun h => by subst h; omega
        have hix : idxA (i64 (Int.ofNat i)) (lenOf (ints gs)) = some i := idxA_at (by simp [lenOf, ints]; omega)
        have hiy : idxA (i64 (Int.ofNat k)) (lenOf (ints gs)) = some k := idxA_at (by simp [lenOf, ints]; omega)
        have dx := drop_cI ix
        have dy := drop_cI iy
        have jx : idxA (i64 (Int.ofNat x)) 6 = some x := idxA_at hx6
        have jy : idxA (i64 (Int.ofNat y)) 6 = some y := idxA_at hy6
        have sx := hs x
        have sy := hs y
        have wneg : wr .i64 (Int.sub 0 (a x)) = -a x := by rw [fold_sub, wr_in] <;> omega
        have hn : mn (-a x) (a y) = -a x ∨ mn (-a x) (a y) = a y := by unfold mn; omega
        have hnp : 0 < mn (-a x) (a y) ∧ mn (-a x) (a y) ≤ -a x ∧ mn (-a x) (a y) ≤ a y := by unfold mn; omega
        generalize hnn : mn (-a x) (a y) = n at hn hnp ⊢
        have wadd : wr .i64 (Int.add (a x) n) = a x + n := by rw [fold_add, wr_in] <;> omega
        have hpy : put a x (a x + n) y = a y := by simp [put, Ne.symm hxy]
        have wsub : wr .i64 (Int.sub (put a x (a x + n) y) n) = put a x (a x + n) y - n := by rw [hpy, fold_sub, wr_in] <;> omega
        have n1 := nthO_c6 a hx6
        have n2 := nthO_c6 a hy6
        have n3 := nthO_c6 (put a x (a x + n)) hy6
        have p1 := fun s b => storeP_c6_1 s b a (a x + n) hx6
        have p2 := fun s b => storeP_c6_1 s b (put a x (a x + n)) (put a x (a x + n) y - n) hy6
        have happ := append_own (f := cP) (sz := 3) (fun _ => rfl) 24 p q (na N 1) (.cells (c6 (put (put a x (a x + n)) y (put a x (a x + n) y - n))) :: O) acc ⟨Int.ofNat x, Int.ofNat y, n⟩ [i64 (Int.ofNat x), i64 (Int.ofNat y), i64 n] rfl .full (by omega) (by omega)
        have hopen : openC (put (put a x (a x + n)) y (put a x (a x + n) y - n)) gs < openC a gs := by
          rcases hn with h | h
          · refine openC_lt (fun j _ hj => ?_) mx' (by omega) ?_
            · have h1 : j ≠ x := fun h => by subst h; omega
              have h2 : j ≠ y := fun h => by subst h; omega
              simp [put, h1, h2, hj]
            · simp [put, hxy]; omega
          · refine openC_lt (fun j _ hj => ?_) my' (by omega) ?_
            · have h1 : j ≠ x := fun h => by subst h; omega
              have h2 : j ≠ y := fun h => by subst h; omega
              simp [put, h1, h2, hj]
            · simp only [put, if_true, if_neg (Ne.symm hxy)]; omega
        have hsmall : Small (put (put a x (a x + n)) y (put a x (a x + n) y - n)) := fun j => by
          rw [hpy]
          unfold put
          by_cases h2 : j = y
          · subst h2; rw [if_pos rfl]; omega
          · rw [if_neg h2]
            by_cases h1 : j = x
            · subst h1; rw [if_pos rfl]; omega
            · rw [if_neg h1]; exact hs j
        obtain ⟨a', h'⟩ := ih _ (app acc [⟨Int.ofNat x, Int.ofNat y, n⟩]) (by omega) (by simp [app]; omega) hsmall
        refine ⟨a', ?_⟩
        simp only at c1 c2
        rw [app_assoc, lim_loop]
        generalize hR : some (_, _, _) = R at h' ⊢
        (try simp only [go_sem, ↓reduceIte, Nat.reduceAdd, Nat.reduceEqDiff, Nat.reduceLT, Nat.reduceLeDiff, Nat.reduceBEq, Int.reduceEq, Int.reduceLT, Int.reduceLE]); (repeat ((first | rw [c1] | rw [c2] | rw [lt_n hi0] | rw [lt_n hk0] | rw [hix] | rw [hiy] | rw [dx] | rw [dy] | rw [jx] | rw [jy] | rw [n1] | rw [n2] | rw [wneg] | rw [hnn] | rw [wadd] | rw [p1] | rw [n3] | rw [wsub] | rw [p2] | rw [happ] | (rw [lt_yes]; rotate_left; (first | omega | (simp [lenOf, app]; omega) | (simp only [lenOf]; omega))) | (rw [lt_no]; rotate_left; (first | omega | (simp [lenOf, app]; omega) | (simp only [lenOf]; omega))) | (rw [idxA_at]; rotate_left; (first | omega | (simp [lenOf, app]; omega) | (simp only [lenOf]; omega))) | (rw [wr_up]; rotate_left; (first | omega | (simp [lenOf, app]; omega) | (simp only [lenOf]; omega))) | ((first | rw [drop_cI] | rw [drop_cE] | rw [drop_cS] | rw [drop_cP] | rw [drop_cR]); rotate_left; assumption)); try simp only [go_sem, ↓reduceIte, Nat.reduceAdd, Nat.reduceEqDiff, Nat.reduceLT, Nat.reduceLeDiff, Nat.reduceBEq, Int.reduceEq, Int.reduceLT, Int.reduceLE]))
        exact h'
theorem k91 (a : Nat → Int) (m : Nat) (gs : List Nat) (hgs : ∀ j ∈ gs, j < 6) (hl : gs.length < 1000) (hs : Small a) (s : St) : lim tbl (.call 91 [.vref (c7 a m), sl cI (ints gs)]) s = some (.ret, [sl cP (settleF 1000 a gs)], s) := by
  obtain ⟨N, O, p, q⟩ := s
  have ho : openC a gs < 1000 := by have := openC_len a gs; omega
  obtain ⟨a', h0⟩ := l91 gs hgs hl N O p q 1000 a [] ho (by simp) hs
  rw [nil_app, ownSl_nil, show lenOf ([] : List Pay) = 0 from rfl, roomP_0, roomC_0] at h0
  rw [lim_call tbl_91]
  generalize settleF 1000 a gs = R at h0 ⊢
  (try simp only [go_sem, ↓reduceIte, Nat.reduceAdd, Nat.reduceEqDiff, Nat.reduceLT, Nat.reduceLeDiff, Nat.reduceBEq, Int.reduceEq, Int.reduceLT, Int.reduceLE]); (repeat ((first | rw [h0] | (rw [lt_yes]; rotate_left; (first | omega | (simp [lenOf, app]; omega) | (simp only [lenOf]; omega))) | (rw [lt_no]; rotate_left; (first | omega | (simp [lenOf, app]; omega) | (simp only [lenOf]; omega))) | (rw [idxA_at]; rotate_left; (first | omega | (simp [lenOf, app]; omega) | (simp only [lenOf]; omega))) | (rw [wr_up]; rotate_left; (first | omega | (simp [lenOf, app]; omega) | (simp only [lenOf]; omega))) | ((first | rw [drop_cI] | rw [drop_cE] | rw [drop_cS] | rw [drop_cP] | rw [drop_cR]); rotate_left; assumption)); try simp only [go_sem, ↓reduceIte, Nat.reduceAdd, Nat.reduceEqDiff, Nat.reduceLT, Nat.reduceLeDiff, Nat.reduceBEq, Int.reduceEq, Int.reduceLT, Int.reduceLE]))
end Go.Proofs.Ytlhfeiacigmliaa

/- The wash-house's soap: what the functions compute: Settle. -/
namespace Go.Proofs.Ytlhfeiacigmliaa
open Go
set_option maxRecDepth 10000

@[go_sem] theorem frz1_own_cP (n : Nat) (s : St) (sz p : Nat) (l : List Pay) : frz1 n s sz (ownSl cP p l) = some (sl cP l) := frz1_ownSl (fun _ => rfl) ..
theorem app_list {α : Type} {f : α → List AVal} {sz : Nat} (hf : ∀ a, (f a).length = sz) (bytes : Nat) (p : Nat) (q : Nat → Nat) (N : Nat) (O : List AObj) (l l' : List α) (h : (l.length + l'.length) * bytes ≤ 140737488355328) (h' : l.length + l'.length ≤ 140737488355328) :
    appendA sz bytes (ownSl f p l) (sl f l') ⟨N, O, roomP p (lenOf l), roomC p q (lenOf l)⟩ = some (ownSl f p (app l l'), ⟨N, O, roomP p (lenOf (app l l')), roomC p q (lenOf (app l l'))⟩) := by
  have he : elemsA ⟨N, O, roomP p (lenOf l), roomC p q (lenOf l)⟩ sz (sl f l') = some (l'.length, cellsOf f l') := by simp [elemsA, sl, lenOf, cells_length hf]
  unfold appendA
  rw [he]
  simp only [lenOf, app]
  cases l' with
  | nil =>
    rw [List.append_nil]
    simp only [List.length_nil, if_true]
    unfold ownSl
    by_cases hl : l.length = 0
    · simp [hl]
    · simp [hl]
  | cons b l' =>
    simp only [show (b :: l').length ≠ 0 by simp, if_false]
    cases l with
    | nil =>
      simp only [ownSl, roomP, roomC, lenOf, app, List.length_nil, if_true, List.nil_append, show (b :: l').length ≠ 0 by simp, if_false]
      simp only [List.length_nil, Nat.zero_add] at h h'
      rw [if_pos ⟨h, h'⟩]
      rfl
    | cons a l =>
      have hlen : (cellsOf f (a :: l)).length = (a :: l).length * sz := cells_length hf _
      simp only [ownSl, roomP, roomC, lenOf, app, show (a :: l).length ≠ 0 by simp, if_false, List.length_append, show (a :: l).length + (b :: l').length ≠ 0 by simp]
      rw [if_pos ⟨hlen, h, h'⟩]
      simp only [if_true]
      rw [if_pos ⟨trivial, by omega⟩]
      simp only [cells_append, Option.some.injEq, Prod.mk.injEq, true_and]
      simp only [St.grow, St.mk.injEq, true_and]
      funext x
      by_cases hx : x = p <;> simp [hx]
theorem Small.ow {es : List Ent} (w : Int) : ∀ {L : List Int} (n : Int) (B : Int), OkE es → areOz es L = true → -B ≤ n → n ≤ B → B + 80 * es.length ≤ 1000000 → -(B + 80 * es.length) ≤ owedUp n w es L ∧ owedUp n w es L ≤ B + 80 * es.length := by
  induction es with
  | nil =>
    intro L n B _ h h1 h2 h3
    cases L with
    | nil => simp only [owedUp, List.length_nil]; omega
    | cons x L => simp [areOz] at h
  | cons e es ih =>
    intro L n B ho h h1 h2 h3
    cases L with
    | nil => simp [areOz] at h
    | cons x L =>
      simp only [areOz, Bool.and_eq_true] at h
      obtain ⟨hx, h⟩ := h
      rw [within_iff] at hx
      have hoe := ho e (by simp)
      simp only [List.length_cons] at h3 ⊢
      rw [owedUp]
      have key : ∀ n', -(B + 80) ≤ n' → n' ≤ B + 80 → -(B + 80 * ((es.length + 1 : Nat) : Int)) ≤ owedUp n' w es L ∧ owedUp n' w es L ≤ B + 80 * ((es.length + 1 : Nat) : Int) := fun n' g1 g2 => by
        have := ih (L := L) n' (B + 80) (fun e he => ho e (by simp [he])) h g1 g2 (by omega)
        omega
      apply key
      · split <;> split
        · rw [wr_in (n := n + x) (by omega) (by omega), wr_in (by omega) (by omega)]; omega
        · rw [wr_in (n := n - x) (by omega) (by omega)]; omega
        · rw [wr_in (n := n + x) (by omega) (by omega)]; omega
        · omega
      · split <;> split
        · rw [wr_in (n := n + x) (by omega) (by omega), wr_in (by omega) (by omega)]; omega
        · rw [wr_in (n := n - x) (by omega) (by omega)]; omega
        · rw [wr_in (n := n + x) (by omega) (by omega)]; omega
        · omega
theorem small_ow {S : Slate} {L : List Int} (hG : Good S) (h : areOz S.es L = true) : Small (owV S.es L) := fun j => by
  have := Small.ow (es := S.es) (Int.ofNat j) (L := L) 0 0 hG.oe h (by omega) (by omega) (by have := hG.e6; omega)
  have h6 := hG.e6
  unfold owV; omega
/-- The numbers of a group. -/
def nats (l : List Int) : List Nat := l.map Int.toNat
def GrpOk (l : List Int) : Prop := l = ints (nats l) ∧ (∀ j ∈ nats l, j < 6) ∧ (nats l).length < 1000
theorem bits_ok {m : Nat} (h : m < 64) : GrpOk (bitsOf m) := by
  have hmem : ∀ x ∈ bitsOf m, ∃ j : Nat, j < 6 ∧ x = Int.ofNat j := by
    intro x hx
    unfold bitsOf upto at hx
    rw [List.mem_flatMap] at hx
    obtain ⟨j, _, hj⟩ := hx
    unfold bitF at hj
    split at hj
    · rename_i hb
      simp only [List.mem_singleton] at hj
      refine ⟨j, ?_, hj⟩
      rcases Nat.lt_or_ge j 6 with h1 | h1
      · exact h1
      · exfalso
        have : bshr m j = 0 := bshr_0 (Nat.lt_of_lt_of_le h (Nat.pow_le_pow_right (n := 2) (i := 6) (by omega) h1))
        rw [this] at hb; simp [bmod] at hb
    · simp at hj
  refine ⟨?_, ?_, ?_⟩
  · unfold ints nats
    rw [List.map_map]
    symm
    have : (bitsOf m).map (Int.ofNat ∘ Int.toNat) = (bitsOf m).map id := by
      apply List.map_congr_left
      intro x hx
      obtain ⟨j, _, rfl⟩ := hmem x hx
      rfl
    rw [this, List.map_id]
  · intro j hj
    unfold nats at hj
    rw [List.mem_map] at hj
    obtain ⟨x, hx, rfl⟩ := hj
    obtain ⟨j, h1, rfl⟩ := hmem x hx
    exact h1
  · unfold nats; rw [List.length_map]; have := bitsOf_len m; omega
theorem grp_ok (a : Nat → Int) : ∀ (f w g : Nat), w < 64 → g < 64 → ∀ l ∈ grp a f w g, GrpOk l
  | 0, _, _, _, _ => by simp [grp]
  | f + 1, w, g, hw, hg => by
    intro l hl
    rw [grp] at hl
    by_cases h0 : w = 0
    · rw [if_pos h0] at hl; simp at hl
    · rw [if_neg h0] at hl
      obtain ⟨x, hx, hx6, hlt⟩ := findI_ok a h0 hw
      rw [hx] at hl
      simp only at hl
      have hg' := bor_64 hg hx6
      split at hl
      · simp only [List.mem_cons] at hl
        rcases hl with hl | hl
        · subst hl; exact bits_ok hg'
        · exact grp_ok a f _ _ (by omega) (by omega) l hl
      · exact grp_ok a f _ _ (by omega) hg' l hl
theorem groups_ok (a : Nat → Int) : ∀ l ∈ groupsA a, GrpOk l := grp_ok a 64 _ _ (openN_lt a) (by omega)
theorem grp_len (a : Nat → Int) : ∀ (f w g : Nat), (grp a f w g).length ≤ f
  | 0, _, _ => by simp [grp]
  | f + 1, w, g => by
    rw [grp]
    split
    · simp
    · split
      · simp
      · split
        · simp only [List.length_cons]; exact Nat.succ_le_succ (grp_len a f _ 0)
        · exact Nat.le_succ_of_le (grp_len a f _ _)
theorem settleF_len : ∀ (f : Nat) (a : Nat → Int) (gs : List Nat), (settleF f a gs).length ≤ f
  | 0, _, _ => by simp [settleF]
  | f + 1, a, gs => by
    rw [settleF]
    split
    · simp only [List.length_cons]; exact Nat.succ_le_succ (settleF_len f _ gs)
    · simp
def settleG (a : Nat → Int) (g : List Int) : List Pay := settleF 1000 a (nats g)
def settleA (a : Nat → Int) : List Pay := (groupsA a).flatMap (settleG a)
theorem l53 (a : Nat → Int) (m : Nat) (hs : Small a) (G : List (List Int)) (hG : ∀ l ∈ G, GrpOk l) (hGl : G.length ≤ 64) (r : Nat) (N : Nat) (O : List AObj) (p : Nat) (q : Nat → Nat) : ∀ (k i : Nat) (acc : List Pay), i + k = G.length → acc.length ≤ i * 1000 →
    lim tbl (.loop a53_l0 37 ⟨[8, 9, 24, 25, 26], [8], []⟩ [ownSl cP p acc, .vref (c7 a m), ownSl cL r G, i64 (Int.ofNat (lenOf G)), i64 (Int.ofNat i)]) ⟨N, O, roomP p (lenOf acc), roomC p q (lenOf acc)⟩
      = some (.exit 0, [ownSl cP p (app acc ((G.drop i).flatMap (settleG a)))], ⟨N, O, roomP p (lenOf (app acc ((G.drop i).flatMap (settleG a)))), roomC p q (lenOf (app acc ((G.drop i).flatMap (settleG a))))⟩) := by
  intro k
  induction k with
  | zero =>
    intro i acc hi ha
    rw [List.drop_eq_nil_of_le (by omega), List.flatMap_nil, app_nil, lim_loop]
    (try simp only [go_sem, ↓reduceIte, Nat.reduceAdd, Nat.reduceEqDiff, Nat.reduceLT, Nat.reduceLeDiff, Nat.reduceBEq, Int.reduceEq, Int.reduceLT, Int.reduceLE]); (repeat ((first | (rw [lt_yes]; rotate_left; (first | omega | (simp [lenOf, app]; omega) | (simp only [lenOf]; omega))) | (rw [lt_no]; rotate_left; (first | omega | (simp [lenOf, app]; omega) | (simp only [lenOf]; omega))) | (rw [idxA_at]; rotate_left; (first | omega | (simp [lenOf, app]; omega) | (simp only [lenOf]; omega))) | (rw [wr_up]; rotate_left; (first | omega | (simp [lenOf, app]; omega) | (simp only [lenOf]; omega))) | ((first | rw [drop_cI] | rw [drop_cE] | rw [drop_cS] | rw [drop_cP] | rw [drop_cR]); rotate_left; assumption)); try simp only [go_sem, ↓reduceIte, Nat.reduceAdd, Nat.reduceEqDiff, Nat.reduceLT, Nat.reduceLeDiff, Nat.reduceBEq, Int.reduceEq, Int.reduceLT, Int.reduceLE]))
  | succ k ih =>
    intro i acc hi ha
    have hlt : i < G.length := by omega
    obtain ⟨g, hg, hd⟩ := getElem_drop hlt
    have hd' := drop_cL hg
    obtain ⟨h1, h2, h3⟩ := hG g (List.mem_of_getElem? hg)
    have h91 := fun s => k91 a m (nats g) h2 h3 hs s
    rw [← h1] at h91
    change ∀ s, _ = some (_, [sl cP (settleG a g)], s) at h91
    have hl := settleF_len 1000 a (nats g)
    change (settleG a g).length ≤ 1000 at hl
    have happ := app_list (f := cP) (sz := 3) (fun _ => rfl) 24 p q N O acc (settleG a g) (by omega) (by omega)
    have h' := ih (i + 1) (app acc (settleG a g)) (by omega) (by simp [app]; omega)
    rw [hd, List.flatMap_cons, app_app, lim_loop]
    generalize settleG a g = V at h91 happ h' ⊢
    generalize hR : some (_, _, _) = R at h' ⊢
    (try simp only [go_sem, ↓reduceIte, Nat.reduceAdd, Nat.reduceEqDiff, Nat.reduceLT, Nat.reduceLeDiff, Nat.reduceBEq, Int.reduceEq, Int.reduceLT, Int.reduceLE]); (repeat ((first | rw [hd'] | simp only [h91] | rw [happ] | (rw [lt_yes]; rotate_left; (first | omega | (simp [lenOf, app]; omega) | (simp only [lenOf]; omega))) | (rw [lt_no]; rotate_left; (first | omega | (simp [lenOf, app]; omega) | (simp only [lenOf]; omega))) | (rw [idxA_at]; rotate_left; (first | omega | (simp [lenOf, app]; omega) | (simp only [lenOf]; omega))) | (rw [wr_up]; rotate_left; (first | omega | (simp [lenOf, app]; omega) | (simp only [lenOf]; omega))) | ((first | rw [drop_cI] | rw [drop_cE] | rw [drop_cS] | rw [drop_cP] | rw [drop_cR]); rotate_left; assumption)); try simp only [go_sem, ↓reduceIte, Nat.reduceAdd, Nat.reduceEqDiff, Nat.reduceLT, Nat.reduceLeDiff, Nat.reduceBEq, Int.reduceEq, Int.reduceLT, Int.reduceLE]))
    exact h'
/-- What Settle returns. -/
def settleP (S : Slate) (L : List Int) : List Pay := if playErr S L = 0 then settleA (playOw S L) else []
theorem k53 (S : Slate) (L : List Int) (s : St) : lim tbl (.call 53 [vSl S, sl cI L]) s = some (.ret, [.tup [sl cP (settleP S L), i64 (playErr S L)]], s) := by
  have h79 := fun s => k79 S L good_of_check s
  rw [lim_call tbl_53]
  by_cases he : playErr S L = 0
  · have hb : settleP S L = settleA (playOw S L) := by simp [settleP, he]
    have hc := play_check he
    have hs : Small (playOw S L) := by
      unfold playErr at he
      rw [if_neg (by simp [hc])] at he
      split at he
      · rename_i ho
        rw [playOw, if_pos ⟨hc, ho⟩]; exact small_ow (good_of_check hc) ho
      · cases he
    rw [hb, he]
    rw [he] at h79
    generalize playOw S L = a at h79 hs ⊢
    obtain ⟨N, O, p, q⟩ := s
    have h80 := k80 a (na N 1) (.cells (c6 a) :: O) p q
    obtain ⟨M', Q', hE, h81⟩ := k81 a (na N 1) p q (na (na N 1) 1) (.map true [] :: .cells (c6 a) :: O) (fun x hx => by
      simp only [List.mem_singleton] at hx; subst hx
      exact ⟨[], gO_new .., fun y hy => by simp at hy⟩)
    have hgl := grp_len a 64 (openN a) 0
    change (groupsA a).length ≤ 64 at hgl
    have h0 := l53 a (na N 1) hs (groupsA a) (groups_ok a) hgl p M' Q' (roomP p (lenOf (groupsA a))) (roomC p q (lenOf (groupsA a))) (groupsA a).length 0 [] (by omega) (by simp)
    rw [List.drop_zero, nil_app, ownSl_nil, show lenOf ([] : List Pay) = 0 from rfl, roomP_0, roomC_0, ofNat_0] at h0
    change _ = some (_, [ownSl cP _ (settleA a)], (⟨_, _, roomP _ (lenOf (settleA a)), roomC _ _ (lenOf (settleA a))⟩ : St)) at h0
    have ho := hE.old N O (by simp [na]) (((OldO.refl N O).push _).push _)
    generalize settleA a = V at h0 ⊢
    generalize groupsA a = G at h81 h0
    have hold : Ytlhfeiacigmliaa.old ⟨N, O, p, q⟩ ⟨M', Q', roomP (roomP p (lenOf G)) (lenOf V), roomC (roomP p (lenOf G)) (roomC p q (lenOf G)) (lenOf V)⟩ = true := by
      simp only [Ytlhfeiacigmliaa.old, decide_eq_true_eq]
      exact ⟨ho.1, ho.2, fun x hx => roomC_old2 p q _ _ x hx⟩
    obtain ⟨w, es, ss⟩ := S
    (try simp only [go_sem, ↓reduceIte, Nat.reduceAdd, Nat.reduceEqDiff, Nat.reduceLT, Nat.reduceLeDiff, Nat.reduceBEq, Int.reduceEq, Int.reduceLT, Int.reduceLE]); (repeat ((first | simp only [h79] | rw [h80] | rw [h81] | rw [h0] | rw [hold] | (rw [lt_yes]; rotate_left; (first | omega | (simp [lenOf, app]; omega) | (simp only [lenOf]; omega))) | (rw [lt_no]; rotate_left; (first | omega | (simp [lenOf, app]; omega) | (simp only [lenOf]; omega))) | (rw [idxA_at]; rotate_left; (first | omega | (simp [lenOf, app]; omega) | (simp only [lenOf]; omega))) | (rw [wr_up]; rotate_left; (first | omega | (simp [lenOf, app]; omega) | (simp only [lenOf]; omega))) | ((first | rw [drop_cI] | rw [drop_cE] | rw [drop_cS] | rw [drop_cP] | rw [drop_cR]); rotate_left; assumption)); try simp only [go_sem, ↓reduceIte, Nat.reduceAdd, Nat.reduceEqDiff, Nat.reduceLT, Nat.reduceLeDiff, Nat.reduceBEq, Int.reduceEq, Int.reduceLT, Int.reduceLE]))
  · have hb : settleP S L = [] := by simp [settleP, he]
    rw [hb]
    generalize playErr S L = e at h79 he ⊢
    generalize playOw S L = A at h79 ⊢
    obtain ⟨w, es, ss⟩ := S
    obtain ⟨N, O, p, q⟩ := s
    (try simp only [go_sem, ↓reduceIte, Nat.reduceAdd, Nat.reduceEqDiff, Nat.reduceLT, Nat.reduceLeDiff, Nat.reduceBEq, Int.reduceEq, Int.reduceLT, Int.reduceLE]); (repeat ((first | simp only [h79] | rw [eq_n he] | (rw [lt_yes]; rotate_left; (first | omega | (simp [lenOf, app]; omega) | (simp only [lenOf]; omega))) | (rw [lt_no]; rotate_left; (first | omega | (simp [lenOf, app]; omega) | (simp only [lenOf]; omega))) | (rw [idxA_at]; rotate_left; (first | omega | (simp [lenOf, app]; omega) | (simp only [lenOf]; omega))) | (rw [wr_up]; rotate_left; (first | omega | (simp [lenOf, app]; omega) | (simp only [lenOf]; omega))) | ((first | rw [drop_cI] | rw [drop_cE] | rw [drop_cS] | rw [drop_cP] | rw [drop_cR]); rotate_left; assumption)); try simp only [go_sem, ↓reduceIte, Nat.reduceAdd, Nat.reduceEqDiff, Nat.reduceLT, Nat.reduceLeDiff, Nat.reduceBEq, Int.reduceEq, Int.reduceLT, Int.reduceLE]))
end Go.Proofs.Ytlhfeiacigmliaa

/- The wash-house's soap: what the functions compute: the document's first examples. -/
namespace Go.Proofs.Ytlhfeiacigmliaa
open Go
set_option maxRecDepth 10000

@[go_sem] theorem repl_12 (a : AVal) : List.replicate 12 a = [a, a, a, a, a, a, a, a, a, a, a, a] := (rfl)
/-- A function that forgets takes its arguments in their normal form. -/
theorem call_norm {T : Nat → Option AFun} {k : Nat} {F : AFun} (h : T k = some F) {sz : Nat} (hg : F.gc = some sz) {args args' : List AVal} (hn : norms args = norms args') (s : St) (hi : isIce (some sz) = false := by rfl) : lim T (.call k args) s = lim T (.call k args') s := by
  have hi' : isIce F.gc = false := by rw [hg]; exact hi
  rw [lim_call h hi', lim_call h hi', hg, frameV_some, frameV_some, hn]
def fourS (k : Nat) : Slate := ⟨4, [⟨0, 1, ⟨2, 3⟩⟩, ⟨1, 2, ⟨2, 2⟩⟩, ⟨3, 2, ⟨1, 4⟩⟩], ([⟨2, ⟨-4, -3⟩⟩, ⟨1, ⟨-1, -1⟩⟩, ⟨0, ⟨2, 2⟩⟩] : List Say).take k⟩
@[go_sem] theorem k72 (a b : Int) (s : St) : lim tbl (.call 72 [i64 a, i64 b]) s = some (.ret, [.agg [i64 a, i64 b]], s) := by
  rw [lim_call tbl_72]; obtain ⟨N, O, p, q⟩ := s
  (try simp only [go_sem, ↓reduceIte, Nat.reduceAdd, Nat.reduceEqDiff, Nat.reduceLT, Nat.reduceLeDiff, Nat.reduceBEq, Int.reduceEq, Int.reduceLT, Int.reduceLE]); (repeat ((first | (rw [lt_yes]; rotate_left; (first | omega | (simp [lenOf, app]; omega) | (simp only [lenOf]; omega))) | (rw [lt_no]; rotate_left; (first | omega | (simp [lenOf, app]; omega) | (simp only [lenOf]; omega))) | (rw [idxA_at]; rotate_left; (first | omega | (simp [lenOf, app]; omega) | (simp only [lenOf]; omega))) | (rw [wr_up]; rotate_left; (first | omega | (simp [lenOf, app]; omega) | (simp only [lenOf]; omega))) | ((first | rw [drop_cI] | rw [drop_cE] | rw [drop_cS] | rw [drop_cP] | rw [drop_cR]); rotate_left; assumption)); try simp only [go_sem, ↓reduceIte, Nat.reduceAdd, Nat.reduceEqDiff, Nat.reduceLT, Nat.reduceLeDiff, Nat.reduceBEq, Int.reduceEq, Int.reduceLT, Int.reduceLE]))
section
variable (a b d e f g h i j : AVal) (pm : Perm)
theorem hi9_0 : sliceHi 3 (.vsl [a, b, d, e, f, g, h, i, j] 3 pm) (i64 0) = some (.vsl [] 0 .no) := rfl
theorem hi9_1 : sliceHi 3 (.vsl [a, b, d, e, f, g, h, i, j] 3 pm) (i64 1) = some (.vsl [a, b, d] 1 .no) := rfl
theorem hi9_2 : sliceHi 3 (.vsl [a, b, d, e, f, g, h, i, j] 3 pm) (i64 2) = some (.vsl [a, b, d, e, f, g] 2 .no) := rfl
theorem hi9_3 : sliceHi 3 (.vsl [a, b, d, e, f, g, h, i, j] 3 pm) (i64 3) = some (.vsl [a, b, d, e, f, g, h, i, j] 3 .no) := rfl
end
theorem k71_0 (s : St) : lim tbl (.call 71 [i64 0]) s = some (.ret, [vSl (fourS 0)], s) := by
  rw [lim_call tbl_71]; obtain ⟨N, O, p, q⟩ := s
  (try simp only [go_sem, ↓reduceIte, Nat.reduceAdd, Nat.reduceEqDiff, Nat.reduceLT, Nat.reduceLeDiff, Nat.reduceBEq, Int.reduceEq, Int.reduceLT, Int.reduceLE]); (repeat ((first | rw [hi9_0] | (rw [lt_yes]; rotate_left; (first | omega | (simp [lenOf, app]; omega) | (simp only [lenOf]; omega))) | (rw [lt_no]; rotate_left; (first | omega | (simp [lenOf, app]; omega) | (simp only [lenOf]; omega))) | (rw [idxA_at]; rotate_left; (first | omega | (simp [lenOf, app]; omega) | (simp only [lenOf]; omega))) | (rw [wr_up]; rotate_left; (first | omega | (simp [lenOf, app]; omega) | (simp only [lenOf]; omega))) | ((first | rw [drop_cI] | rw [drop_cE] | rw [drop_cS] | rw [drop_cP] | rw [drop_cR]); rotate_left; assumption)); try simp only [go_sem, ↓reduceIte, Nat.reduceAdd, Nat.reduceEqDiff, Nat.reduceLT, Nat.reduceLeDiff, Nat.reduceBEq, Int.reduceEq, Int.reduceLT, Int.reduceLE]))
  rfl
theorem k71_1 (s : St) : lim tbl (.call 71 [i64 1]) s = some (.ret, [vSl (fourS 1)], s) := by
  rw [lim_call tbl_71]; obtain ⟨N, O, p, q⟩ := s
  (try simp only [go_sem, ↓reduceIte, Nat.reduceAdd, Nat.reduceEqDiff, Nat.reduceLT, Nat.reduceLeDiff, Nat.reduceBEq, Int.reduceEq, Int.reduceLT, Int.reduceLE]); (repeat ((first | rw [hi9_1] | (rw [lt_yes]; rotate_left; (first | omega | (simp [lenOf, app]; omega) | (simp only [lenOf]; omega))) | (rw [lt_no]; rotate_left; (first | omega | (simp [lenOf, app]; omega) | (simp only [lenOf]; omega))) | (rw [idxA_at]; rotate_left; (first | omega | (simp [lenOf, app]; omega) | (simp only [lenOf]; omega))) | (rw [wr_up]; rotate_left; (first | omega | (simp [lenOf, app]; omega) | (simp only [lenOf]; omega))) | ((first | rw [drop_cI] | rw [drop_cE] | rw [drop_cS] | rw [drop_cP] | rw [drop_cR]); rotate_left; assumption)); try simp only [go_sem, ↓reduceIte, Nat.reduceAdd, Nat.reduceEqDiff, Nat.reduceLT, Nat.reduceLeDiff, Nat.reduceBEq, Int.reduceEq, Int.reduceLT, Int.reduceLE]))
  rfl
theorem k71_3 (s : St) : lim tbl (.call 71 [i64 3]) s = some (.ret, [vSl (fourS 3)], s) := by
  rw [lim_call tbl_71]; obtain ⟨N, O, p, q⟩ := s
  (try simp only [go_sem, ↓reduceIte, Nat.reduceAdd, Nat.reduceEqDiff, Nat.reduceLT, Nat.reduceLeDiff, Nat.reduceBEq, Int.reduceEq, Int.reduceLT, Int.reduceLE]); (repeat ((first | rw [hi9_3] | (rw [lt_yes]; rotate_left; (first | omega | (simp [lenOf, app]; omega) | (simp only [lenOf]; omega))) | (rw [lt_no]; rotate_left; (first | omega | (simp [lenOf, app]; omega) | (simp only [lenOf]; omega))) | (rw [idxA_at]; rotate_left; (first | omega | (simp [lenOf, app]; omega) | (simp only [lenOf]; omega))) | (rw [wr_up]; rotate_left; (first | omega | (simp [lenOf, app]; omega) | (simp only [lenOf]; omega))) | ((first | rw [drop_cI] | rw [drop_cE] | rw [drop_cS] | rw [drop_cP] | rw [drop_cR]); rotate_left; assumption)); try simp only [go_sem, ↓reduceIte, Nat.reduceAdd, Nat.reduceEqDiff, Nat.reduceLT, Nat.reduceLeDiff, Nat.reduceBEq, Int.reduceEq, Int.reduceLT, Int.reduceLE]))
  rfl
theorem x52 (s : St) : lim tbl (.call 52 [vSl (fourS 0), .vsl [i64 3, i64 2, i64 1] 3 .full]) s = some (.ret, [.tup [sl cI [3, -1, -3, 1], i64 0]], s) := by
  have h1 : playL (fourS 0) [3, 2, 1] = [3, -1, -3, 1] := by kernel_rfl
  have h2 : playErr (fourS 0) [3, 2, 1] = 0 := by kernel_rfl
  have h := k52 (fourS 0) [3, 2, 1] good_of_check s
  rw [h1, h2] at h
  rw [← h]
  exact call_norm tbl_52 rfl (by kernel_rfl) s
theorem x23 (s : St) : lim tbl (.call 23 [vSl (fourS 1)]) s = some (.ret, [.tup [.vsl [i64 2, i64 3, i64 (-1), i64 0, i64 (-4), i64 (-3), i64 1, i64 2] 4 .no, i64 0]], s) := by
  have h1 : boundsL (fourS 1) = [⟨2, 3⟩, ⟨-1, 0⟩, ⟨-4, -3⟩, ⟨1, 2⟩] := by kernel_rfl
  have h2 : askedErr (fourS 1) = 0 := by kernel_rfl
  have h := k23 (fourS 1) s
  rw [h1, h2] at h
  exact h
theorem x25 (s : St) : lim tbl (.call 25 [vSl (fourS 0)]) s = some (.ret, [.tup [sl cI [2, 3, 1, 2], i64 0]], s) := by
  have h1 : (boundsL (fourS 0)).map owesF = [2, 3, 1, 2] := by kernel_rfl
  have h2 : askedErr (fourS 0) = 0 := by kernel_rfl
  have h := k25 (fourS 0) s
  rw [h1, h2] at h
  exact h
theorem x53 (s : St) : lim tbl (.call 53 [vSl (fourS 0), .vsl [i64 2, i64 2, i64 4] 3 .full]) s = some (.ret, [.tup [sl cP [⟨2, 0, 2⟩, ⟨2, 3, 4⟩], i64 0]], s) := by
  have h1 : settleP (fourS 0) [2, 2, 4] = [⟨2, 0, 2⟩, ⟨2, 3, 4⟩] := by kernel_rfl
  have h2 : playErr (fourS 0) [2, 2, 4] = 0 := by kernel_rfl
  have h := k53 (fourS 0) [2, 2, 4] s
  rw [h1, h2] at h
  rw [← h]
  exact call_norm tbl_53 rfl (by kernel_rfl) s
theorem x30 (s : St) : lim tbl (.call 30 [vSl (fourS 0), .vsl [i64 3, i64 2, i64 1] 3 .full]) s = some (.ret, [.tup [sl cL [[0, 2], [1, 3]], i64 0]], s) := by
  have h1 : groupsP (fourS 0) [3, 2, 1] = [[0, 2], [1, 3]] := by kernel_rfl
  have h2 : playErr (fourS 0) [3, 2, 1] = 0 := by kernel_rfl
  have h := k30 (fourS 0) [3, 2, 1] s
  rw [h1, h2] at h
  rw [← h]
  exact call_norm tbl_30 rfl (by kernel_rfl) s
theorem x38 (s : St) : lim tbl (.call 38 [vSl (fourS 0)]) s = some (.ret, [.tup [.agg [i64 2, i64 3], i64 0]], s) := by
  have h1 : fewestP (fourS 0) = (2, 3) := by kernel_rfl
  have h2 : askedErr (fourS 0) = 0 := by kernel_rfl
  have h := k38 (fourS 0) s
  rw [h1, h2] at h
  exact h
theorem x40 (s : St) : lim tbl (.call 40 [vSl (fourS 3)]) s = some (.ret, [.tup [i64 2, i64 0]], s) := by
  have h1 : firstA (fourS 3) = 2 := by kernel_rfl
  have h2 : firstE (fourS 3) = 0 := by kernel_rfl
  have h := k40 (fourS 3) s
  rw [h1, h2] at h
  exact h
theorem x41 (s : St) : lim tbl (.call 41 [vSl (fourS 3)]) s = some (.ret, [.tup [sl cI [1], i64 0]], s) := by
  have h1 : leaveL (fourS 3) = [1] := by kernel_rfl
  have h2 : checkSlate (fourS 3) = 0 := by kernel_rfl
  have h := k41 (fourS 3) s
  rw [h1, h2] at h
  exact h
theorem x43 (a : List Int) (cs : List AVal) (n : Nat) (h : sl cI a = .vsl cs n .no) (hn : norms cs = cs) (hl : a.length < 1000) (s : St) : lim tbl (.call 43 [sl cI a, .vsl cs n .full]) s = some (.ret, [.bool true], s) := by
  have h1 := k43 a a (by omega) s
  have h2 : sameL a a = true := by simp [sameL]
  rw [h2] at h1
  rw [← h1]
  refine call_norm tbl_43 rfl ?_ s
  rw [h]; simp [norms, AVal.norm, hn]
/-- The document's first examples are returned. -/
theorem k22 (s : St) : lim tbl (.call 22 []) s = some (.ret, [.bool true], s) := by
  have a1 := fun s => x43 [3, -1, -3, 1] [i64 3, i64 (-1), i64 (-3), i64 1] 4 rfl rfl (by simp) s
  have a2 := fun s => x43 [2, 3, 1, 2] [i64 2, i64 3, i64 1, i64 2] 4 rfl rfl (by simp) s
  have a3 := fun s => x43 [1] [i64 1] 1 rfl rfl (by simp) s
  have l2 : lenOf ([⟨2, 0, 2⟩, ⟨2, 3, 4⟩] : List Pay) = 2 := rfl
  have l3 : lenOf ([[0, 2], [1, 3]] : List (List Int)) = 2 := rfl
  rw [lim_call tbl_22]; obtain ⟨N, O, p, q⟩ := s
  (try simp only [go_sem, ↓reduceIte, Nat.reduceAdd, Nat.reduceEqDiff, Nat.reduceLT, Nat.reduceLeDiff, Nat.reduceBEq, Int.reduceEq, Int.reduceLT, Int.reduceLE]); (repeat ((first | simp only [k71_0, k71_1, k71_3] | simp only [x52, x23, x25, x53, x30, x38, x40, x41] | simp only [a1, a2, a3] | rw [l2] | rw [l3] | (rw [lt_yes]; rotate_left; (first | omega | (simp [lenOf, app]; omega) | (simp only [lenOf]; omega))) | (rw [lt_no]; rotate_left; (first | omega | (simp [lenOf, app]; omega) | (simp only [lenOf]; omega))) | (rw [idxA_at]; rotate_left; (first | omega | (simp [lenOf, app]; omega) | (simp only [lenOf]; omega))) | (rw [wr_up]; rotate_left; (first | omega | (simp [lenOf, app]; omega) | (simp only [lenOf]; omega))) | ((first | rw [drop_cI] | rw [drop_cE] | rw [drop_cS] | rw [drop_cP] | rw [drop_cR]); rotate_left; assumption)); try simp only [go_sem, ↓reduceIte, Nat.reduceAdd, Nat.reduceEqDiff, Nat.reduceLT, Nat.reduceLeDiff, Nat.reduceBEq, Int.reduceEq, Int.reduceLT, Int.reduceLE]))
end Go.Proofs.Ytlhfeiacigmliaa

/- The wash-house's soap: what the functions compute: payments of the other package, ranges in ranges, slates that are closer. -/
namespace Go.Proofs.Ytlhfeiacigmliaa
open Go
set_option maxRecDepth 10000

/-- The first slate's answers are as close as the second one's. -/
structure CloserOk (X S : Slate) : Prop where
  ex : askedErr X = 0
  es : askedErr S = 0
  xl : X.es.length < 1000000 ∧ X.ss.length < 1000000
  sl : S.es.length < 1000000 ∧ S.ss.length < 1000000
  bl : (boundsL X).length < 1000000 ∧ (boundsL X).length = (boundsL S).length
  bo : ∀ (i : Nat) (x y : Rng), (boundsL X)[i]? = some x → (boundsL S)[i]? = some y → y.lo ≤ x.lo ∧ x.hi ≤ y.hi
  ow : ∀ (i : Nat) (x y : Int), ((boundsL S).map owesF)[i]? = some x → ((boundsL X).map owesF)[i]? = some y → x = 3 ∨ x = y
  fw : (fewestP S).1 ≤ (fewestP X).1 ∧ (fewestP X).2 ≤ (fewestP S).2
end Go.Proofs.Ytlhfeiacigmliaa

/- The wash-house's soap: what the functions compute: whether payments settle all, by both packages. -/
namespace Go.Proofs.Ytlhfeiacigmliaa
open Go
set_option maxRecDepth 10000

theorem l55b (w : Int) (es : List Ent) (ss : List Say) (P : List Pay) (hl : P.length < 1000000) (s : St) : ∀ (k i : Nat), i + k = P.length → ∀ R,
   R = (if allB (payOk w) (P.drop i) then some (.exit 0, [], s) else some (.ret, [.bool false], s)) →
   lim tbl (.loop a55_l0 34 ⟨[1, 2, 5], [], [4]⟩ [sl cP P, .vref [i64 w, sl cE es, sl cS ss], i64 (Int.ofNat i)]) s = R := by
  intro k
  induction k with
  | zero =>
    intro i hi R hR
    rw [List.drop_eq_nil_of_le (by omega)] at hR
    simp only [allB, List.all_nil, if_true] at hR
    rw [lim_loop]
    obtain ⟨N, O, p, q⟩ := s
    (try simp only [go_sem, ↓reduceIte, Nat.reduceAdd, Nat.reduceEqDiff, Nat.reduceLT, Nat.reduceLeDiff, Nat.reduceBEq, Int.reduceEq, Int.reduceLT, Int.reduceLE]); (repeat ((first | (rw [lt_yes]; rotate_left; (first | omega | (simp [lenOf, app]; omega) | (simp only [lenOf]; omega))) | (rw [lt_no]; rotate_left; (first | omega | (simp [lenOf, app]; omega) | (simp only [lenOf]; omega))) | (rw [idxA_at]; rotate_left; (first | omega | (simp [lenOf, app]; omega) | (simp only [lenOf]; omega))) | (rw [wr_up]; rotate_left; (first | omega | (simp [lenOf, app]; omega) | (simp only [lenOf]; omega))) | ((first | rw [drop_cI] | rw [drop_cE] | rw [drop_cS] | rw [drop_cP] | rw [drop_cR]); rotate_left; assumption)); try simp only [go_sem, ↓reduceIte, Nat.reduceAdd, Nat.reduceEqDiff, Nat.reduceLT, Nat.reduceLeDiff, Nat.reduceBEq, Int.reduceEq, Int.reduceLT, Int.reduceLE]))
    exact hR.symm
  | succ k ih =>
    intro i hi R hR
    have hlt : i < P.length := by omega
    obtain ⟨x, hx, hd⟩ := getElem_drop hlt
    have h' := ih (i + 1) (by omega) R
    obtain ⟨f, t, n⟩ := x
    have hA : allB (payOk w) (⟨f, t, n⟩ :: P.drop (i + 1)) = (pair w f t && within n 1 240 && allB (payOk w) (P.drop (i + 1))) := by simp [allB, payOk]
    rw [hd, hA] at hR
    rw [lim_loop]
    obtain ⟨N, O, p, q⟩ := s
    cases o1 : pair w f t with
    | false =>
      rw [o1] at hR
      simp only [Bool.false_and, Bool.false_eq_true, if_false] at hR
      (try simp only [go_sem, ↓reduceIte, Nat.reduceAdd, Nat.reduceEqDiff, Nat.reduceLT, Nat.reduceLeDiff, Nat.reduceBEq, Int.reduceEq, Int.reduceLT, Int.reduceLE]); (repeat ((first | rw [o1] | (rw [lt_yes]; rotate_left; (first | omega | (simp [lenOf, app]; omega) | (simp only [lenOf]; omega))) | (rw [lt_no]; rotate_left; (first | omega | (simp [lenOf, app]; omega) | (simp only [lenOf]; omega))) | (rw [idxA_at]; rotate_left; (first | omega | (simp [lenOf, app]; omega) | (simp only [lenOf]; omega))) | (rw [wr_up]; rotate_left; (first | omega | (simp [lenOf, app]; omega) | (simp only [lenOf]; omega))) | ((first | rw [drop_cI] | rw [drop_cE] | rw [drop_cS] | rw [drop_cP] | rw [drop_cR]); rotate_left; assumption)); try simp only [go_sem, ↓reduceIte, Nat.reduceAdd, Nat.reduceEqDiff, Nat.reduceLT, Nat.reduceLeDiff, Nat.reduceBEq, Int.reduceEq, Int.reduceLT, Int.reduceLE]))
      exact hR.symm
    | true =>
      cases o2 : within n 1 240 with
      | false =>
        rw [o1, o2] at hR
        simp only [Bool.and_false, Bool.false_and, Bool.false_eq_true, if_false] at hR
        (try simp only [go_sem, ↓reduceIte, Nat.reduceAdd, Nat.reduceEqDiff, Nat.reduceLT, Nat.reduceLeDiff, Nat.reduceBEq, Int.reduceEq, Int.reduceLT, Int.reduceLE]); (repeat ((first | rw [o1] | rw [o2] | (rw [lt_yes]; rotate_left; (first | omega | (simp [lenOf, app]; omega) | (simp only [lenOf]; omega))) | (rw [lt_no]; rotate_left; (first | omega | (simp [lenOf, app]; omega) | (simp only [lenOf]; omega))) | (rw [idxA_at]; rotate_left; (first | omega | (simp [lenOf, app]; omega) | (simp only [lenOf]; omega))) | (rw [wr_up]; rotate_left; (first | omega | (simp [lenOf, app]; omega) | (simp only [lenOf]; omega))) | ((first | rw [drop_cI] | rw [drop_cE] | rw [drop_cS] | rw [drop_cP] | rw [drop_cR]); rotate_left; assumption)); try simp only [go_sem, ↓reduceIte, Nat.reduceAdd, Nat.reduceEqDiff, Nat.reduceLT, Nat.reduceLeDiff, Nat.reduceBEq, Int.reduceEq, Int.reduceLT, Int.reduceLE]))
        exact hR.symm
      | true =>
        rw [o1, o2] at hR
        simp only [Bool.true_and] at hR
        (try simp only [go_sem, ↓reduceIte, Nat.reduceAdd, Nat.reduceEqDiff, Nat.reduceLT, Nat.reduceLeDiff, Nat.reduceBEq, Int.reduceEq, Int.reduceLT, Int.reduceLE]); (repeat ((first | rw [o1] | rw [o2] | (rw [lt_yes]; rotate_left; (first | omega | (simp [lenOf, app]; omega) | (simp only [lenOf]; omega))) | (rw [lt_no]; rotate_left; (first | omega | (simp [lenOf, app]; omega) | (simp only [lenOf]; omega))) | (rw [idxA_at]; rotate_left; (first | omega | (simp [lenOf, app]; omega) | (simp only [lenOf]; omega))) | (rw [wr_up]; rotate_left; (first | omega | (simp [lenOf, app]; omega) | (simp only [lenOf]; omega))) | ((first | rw [drop_cI] | rw [drop_cE] | rw [drop_cS] | rw [drop_cP] | rw [drop_cR]); rotate_left; assumption)); try simp only [go_sem, ↓reduceIte, Nat.reduceAdd, Nat.reduceEqDiff, Nat.reduceLT, Nat.reduceLeDiff, Nat.reduceBEq, Int.reduceEq, Int.reduceLT, Int.reduceLE]))
        exact h' hR
/-- What is owed after payments. -/
def setUp (w : Int) : Int → List Pay → Int
  | n, [] => n
  | n, x :: l => setUp w (if x.to = w then wr .i64 (Int.sub (if x.fr = w then wr .i64 (Int.add n x.oz) else n) x.oz) else (if x.fr = w then wr .i64 (Int.add n x.oz) else n)) l
def OkFP (P : List Pay) : Prop := ∀ x ∈ P, ∃ f t : Nat, f < 6 ∧ t < 6 ∧ x.fr = Int.ofNat f ∧ x.to = Int.ofNat t
theorem l67 (P : List Pay) (hP : P.length < 1000000) (hF : OkFP P) (N : Nat) (O : List AObj) (p : Nat) (q : Nat → Nat) : ∀ (k i : Nat) (a : Nat → Int) (M : Nat) (Q : List AObj), i + k = P.length → Under N O (.cells (c6 a)) M Q →
   ∃ M' Q', Under N O (.cells (c6 fun j => setUp (Int.ofNat j) (a j) (P.drop i))) M' Q' ∧
   lim tbl (.loop a67_l0 60 ⟨[9, 34, 35, 36], [9], []⟩ [.ptr N 0, sl cP P, i64 (Int.ofNat (lenOf P)), i64 (Int.ofNat i)]) ⟨M, Q, p, q⟩ = some (.exit 0, [.ptr N 0], ⟨M', Q', p, q⟩) := by
  intro k
  induction k with
  | zero =>
    intro i a M Q hi hU
    refine ⟨M, Q, ?_, ?_⟩
    · rw [List.drop_eq_nil_of_le (by omega)]; exact hU
    · rw [lim_loop]
      (try simp only [go_sem, ↓reduceIte, Nat.reduceAdd, Nat.reduceEqDiff, Nat.reduceLT, Nat.reduceLeDiff, Nat.reduceBEq, Int.reduceEq, Int.reduceLT, Int.reduceLE]); (repeat ((first | (rw [lt_yes]; rotate_left; (first | omega | (simp [lenOf, app]; omega) | (simp only [lenOf]; omega))) | (rw [lt_no]; rotate_left; (first | omega | (simp [lenOf, app]; omega) | (simp only [lenOf]; omega))) | (rw [idxA_at]; rotate_left; (first | omega | (simp [lenOf, app]; omega) | (simp only [lenOf]; omega))) | (rw [wr_up]; rotate_left; (first | omega | (simp [lenOf, app]; omega) | (simp only [lenOf]; omega))) | ((first | rw [drop_cI] | rw [drop_cE] | rw [drop_cS] | rw [drop_cP] | rw [drop_cR]); rotate_left; assumption)); try simp only [go_sem, ↓reduceIte, Nat.reduceAdd, Nat.reduceEqDiff, Nat.reduceLT, Nat.reduceLeDiff, Nat.reduceBEq, Int.reduceEq, Int.reduceLT, Int.reduceLE]))
  | succ k ih =>
    intro i a M Q hi hU
    have hlt : i < P.length := by omega
    obtain ⟨e, he, hd⟩ := getElem_drop hlt
    obtain ⟨f, t, hf, ht, h1, h2⟩ := hF e (List.mem_of_getElem? he)
    obtain ⟨fr, to, x⟩ := e
    simp only at h1 h2
    subst h1 h2
    rw [hd]
    have g1 := hU.get1 (.cells [i64 (Int.ofNat f), i64 (Int.ofNat t), i64 x]) p q
    obtain ⟨Q1, hU1, _, s1⟩ := hU.set (.cells (c6 (put a f (wr .i64 (Int.add (a f) x)))))
    have g2 := hU1.get1 (.cells [i64 (Int.ofNat f), i64 (Int.ofNat t), i64 x]) p q
    obtain ⟨Q2, hU2, _, s2⟩ := hU1.set (.cells (c6 (put (put a f (wr .i64 (Int.add (a f) x))) t (wr .i64 (Int.sub (put a f (wr .i64 (Int.add (a f) x)) t) x)))))
    obtain ⟨M', Q', hU', h'⟩ := ih (i + 1) _ _ _ (by omega) (hU2.push (.cells [i64 (Int.ofNat f), i64 (Int.ofNat t), i64 x]))
    refine ⟨M', Q', ?_, ?_⟩
    · have : (fun j => setUp (Int.ofNat j) (put (put a f (wr .i64 (Int.add (a f) x))) t (wr .i64 (Int.sub (put a f (wr .i64 (Int.add (a f) x)) t) x)) j) (P.drop (i + 1)))
        = (fun j => setUp (Int.ofNat j) (a j) (⟨Int.ofNat f, Int.ofNat t, x⟩ :: P.drop (i + 1))) := by
        funext j
        rw [setUp]
        simp only [put, Int.ofNat.injEq]
        congr 1
        by_cases hj1 : j = t
        · subst hj1
          by_cases hj2 : j = f
          · subst hj2; simp
          · simp [hj2, Ne.symm hj2]
        · by_cases hj2 : j = f
          · subst hj2; simp [hj1, Ne.symm hj1]
          · simp [hj1, hj2, Ne.symm hj1, Ne.symm hj2]
      rw [← this]; exact hU'
    · rw [lim_loop]
      generalize hR : some (_, _, _) = R at h' ⊢
      have n1 := nthO_c6 a hf
      have n2 := nthO_c6 (put a f (wr .i64 (Int.add (a f) x))) ht
      have p1 := fun s b => storeP_c6_1 s b a (wr .i64 (Int.add (a f) x)) hf
      have p2 := fun s b => storeP_c6_1 s b (put a f (wr .i64 (Int.add (a f) x))) (wr .i64 (Int.sub (put a f (wr .i64 (Int.add (a f) x)) t) x)) ht
      (try simp only [go_sem, ↓reduceIte, Nat.reduceAdd, Nat.reduceEqDiff, Nat.reduceLT, Nat.reduceLeDiff, Nat.reduceBEq, Int.reduceEq, Int.reduceLT, Int.reduceLE]); (repeat ((first | rw [g1] | rw [n1] | rw [p1] | rw [s1] | rw [g2] | rw [n2] | rw [p2] | rw [s2] | (rw [lt_yes]; rotate_left; (first | omega | (simp [lenOf, app]; omega) | (simp only [lenOf]; omega))) | (rw [lt_no]; rotate_left; (first | omega | (simp [lenOf, app]; omega) | (simp only [lenOf]; omega))) | (rw [idxA_at]; rotate_left; (first | omega | (simp [lenOf, app]; omega) | (simp only [lenOf]; omega))) | (rw [wr_up]; rotate_left; (first | omega | (simp [lenOf, app]; omega) | (simp only [lenOf]; omega))) | ((first | rw [drop_cI] | rw [drop_cE] | rw [drop_cS] | rw [drop_cP] | rw [drop_cR]); rotate_left; assumption)); try simp only [go_sem, ↓reduceIte, Nat.reduceAdd, Nat.reduceEqDiff, Nat.reduceLT, Nat.reduceLeDiff, Nat.reduceBEq, Int.reduceEq, Int.reduceLT, Int.reduceLE]))
      exact h'
def proveS (S : Slate) (L : List Int) (P : List Pay) (many : Int) : Bool :=
  decide (playErr S L = 0) && (decide (Int.ofNat (lenOf P) ≤ many) && (allB (payOk S.women) P && eq6 (fun j => setUp (Int.ofNat j) (playOw S L j) P) (fun _ => 0)))
theorem pay_women {w : Int} (h6 : w ≤ 6) {P : List Pay} (h : allB (payOk w) P = true) (hw0 : 0 ≤ w) : OkFP P := by
  intro x hx
  simp only [allB, List.all_eq_true] at h
  have := h x hx
  have hwr : wr .i64 (w - 1) = w - 1 := wr_in (by omega) (by omega)
  simp only [payOk, pair, woman, hwr, Bool.and_eq_true, within_iff] at this
  obtain ⟨⟨⟨a1, a2⟩, ⟨b1, b2⟩, _⟩, _⟩ := this
  exact ⟨x.fr.toNat, x.to.toNat, by omega, by omega, by simp; omega, by simp; omega⟩
theorem eq6_z (a : Nat → Int) : eqCells [0, 0, 0, 0, 0, 0] (c6 a) [i64 0, i64 0, i64 0, i64 0, i64 0, i64 0] = some (eq6 a fun _ => 0) := eqCells_c6 a fun _ => 0
theorem k67 (S : Slate) (L : List Int) (P : List Pay) (many : Int) (hP : P.length < 1000000) (s : St) : lim tbl (.call 67 [vSl S, sl cI L, sl cP P, i64 many]) s = some (.ret, [.bool (proveS S L P many)], s) := by
  have h79 := fun s => k79 S L good_of_check s
  rw [lim_call tbl_67]
  obtain ⟨N, O, p, q⟩ := s
  generalize hR : proveS S L P many = R
  unfold proveS at hR
  by_cases he : playErr S L = 0
  · have hc := play_check he
    have hG := good_of_check hc
    have hw0 := hG.w0
    have hw6 := hG.w6
    rw [he] at h79
    simp only [he, decide_true, Bool.true_and] at hR
    generalize playOw S L = a at h79 hR
    obtain ⟨w, es, ss⟩ := S
    simp only at hR hw0 hw6
    by_cases hm : Int.ofNat (lenOf P) ≤ many
    · have hm' : ¬ many < Int.ofNat (lenOf P) := by omega
      simp only [hm, decide_true, Bool.true_and] at hR
      have hA := fun s => k104 (P := payOk w) (f := .func 105) (fa := [vSl ⟨w, es, ss⟩]) (fb := []) (by (try simp only [go_sem, ↓reduceIte, Nat.reduceAdd, Nat.reduceEqDiff, Nat.reduceLT, Nat.reduceLeDiff, Nat.reduceBEq, Int.reduceEq, Int.reduceLT, Int.reduceLE])) (by (try simp only [go_sem, ↓reduceIte, Nat.reduceAdd, Nat.reduceEqDiff, Nat.reduceLT, Nat.reduceLeDiff, Nat.reduceBEq, Int.reduceEq, Int.reduceLT, Int.reduceLE])) s P hP (fun e _ => by obtain ⟨a, b, n⟩ := e; (try simp only [go_sem, ↓reduceIte, Nat.reduceAdd, Nat.reduceEqDiff, Nat.reduceLT, Nat.reduceLeDiff, Nat.reduceBEq, Int.reduceEq, Int.reduceLT, Int.reduceLE]))
      cases hb : allB (payOk w) P with
      | false =>
        rw [hb] at hA hR
        simp only [Bool.false_and] at hR
        subst hR
        (try simp only [go_sem, ↓reduceIte, Nat.reduceAdd, Nat.reduceEqDiff, Nat.reduceLT, Nat.reduceLeDiff, Nat.reduceBEq, Int.reduceEq, Int.reduceLT, Int.reduceLE]); (repeat ((first | simp only [h79] | rw [lt_n hm'] | simp only [hA] | (rw [lt_yes]; rotate_left; (first | omega | (simp [lenOf, app]; omega) | (simp only [lenOf]; omega))) | (rw [lt_no]; rotate_left; (first | omega | (simp [lenOf, app]; omega) | (simp only [lenOf]; omega))) | (rw [idxA_at]; rotate_left; (first | omega | (simp [lenOf, app]; omega) | (simp only [lenOf]; omega))) | (rw [wr_up]; rotate_left; (first | omega | (simp [lenOf, app]; omega) | (simp only [lenOf]; omega))) | ((first | rw [drop_cI] | rw [drop_cE] | rw [drop_cS] | rw [drop_cP] | rw [drop_cR]); rotate_left; assumption)); try simp only [go_sem, ↓reduceIte, Nat.reduceAdd, Nat.reduceEqDiff, Nat.reduceLT, Nat.reduceLeDiff, Nat.reduceBEq, Int.reduceEq, Int.reduceLT, Int.reduceLE]))
      | true =>
        rw [hb] at hA hR
        simp only [Bool.true_and] at hR
        have hF := pay_women hw6 hb hw0
        obtain ⟨M, Q, hU, h0⟩ := l67 P hP hF N O p q P.length 0 a (na N 1) (.cells (c6 a) :: O) (by omega) (Under.init ..)
        rw [ofNat_0] at h0
        rw [List.drop_zero] at hU
        have g1 := hU.get p q
        have ho := hU.old p q
        have hz := eq6_z (fun j => setUp (Int.ofNat j) (a j) P)
        rw [hR] at hz
        generalize (fun j => setUp (Int.ofNat j) (a j) P) = b at g1 hz
        (try simp only [go_sem, ↓reduceIte, Nat.reduceAdd, Nat.reduceEqDiff, Nat.reduceLT, Nat.reduceLeDiff, Nat.reduceBEq, Int.reduceEq, Int.reduceLT, Int.reduceLE]); (repeat ((first | simp only [h79] | rw [lt_n hm'] | simp only [hA] | rw [h0] | rw [g1] | rw [hz] | rw [ho] | (rw [lt_yes]; rotate_left; (first | omega | (simp [lenOf, app]; omega) | (simp only [lenOf]; omega))) | (rw [lt_no]; rotate_left; (first | omega | (simp [lenOf, app]; omega) | (simp only [lenOf]; omega))) | (rw [idxA_at]; rotate_left; (first | omega | (simp [lenOf, app]; omega) | (simp only [lenOf]; omega))) | (rw [wr_up]; rotate_left; (first | omega | (simp [lenOf, app]; omega) | (simp only [lenOf]; omega))) | ((first | rw [drop_cI] | rw [drop_cE] | rw [drop_cS] | rw [drop_cP] | rw [drop_cR]); rotate_left; assumption)); try simp only [go_sem, ↓reduceIte, Nat.reduceAdd, Nat.reduceEqDiff, Nat.reduceLT, Nat.reduceLeDiff, Nat.reduceBEq, Int.reduceEq, Int.reduceLT, Int.reduceLE]))
    · have hm' : many < Int.ofNat (lenOf P) := by omega
      simp only [hm, decide_false, Bool.false_and] at hR
      subst hR
      (try simp only [go_sem, ↓reduceIte, Nat.reduceAdd, Nat.reduceEqDiff, Nat.reduceLT, Nat.reduceLeDiff, Nat.reduceBEq, Int.reduceEq, Int.reduceLT, Int.reduceLE]); (repeat ((first | simp only [h79] | rw [lt_y hm'] | (rw [lt_yes]; rotate_left; (first | omega | (simp [lenOf, app]; omega) | (simp only [lenOf]; omega))) | (rw [lt_no]; rotate_left; (first | omega | (simp [lenOf, app]; omega) | (simp only [lenOf]; omega))) | (rw [idxA_at]; rotate_left; (first | omega | (simp [lenOf, app]; omega) | (simp only [lenOf]; omega))) | (rw [wr_up]; rotate_left; (first | omega | (simp [lenOf, app]; omega) | (simp only [lenOf]; omega))) | ((first | rw [drop_cI] | rw [drop_cE] | rw [drop_cS] | rw [drop_cP] | rw [drop_cR]); rotate_left; assumption)); try simp only [go_sem, ↓reduceIte, Nat.reduceAdd, Nat.reduceEqDiff, Nat.reduceLT, Nat.reduceLeDiff, Nat.reduceBEq, Int.reduceEq, Int.reduceLT, Int.reduceLE]))
  · simp only [he, decide_false, Bool.false_and] at hR
    subst hR
    generalize playErr S L = e at h79 he
    generalize playOw S L = a at h79
    obtain ⟨w, es, ss⟩ := S
    (try simp only [go_sem, ↓reduceIte, Nat.reduceAdd, Nat.reduceEqDiff, Nat.reduceLT, Nat.reduceLeDiff, Nat.reduceBEq, Int.reduceEq, Int.reduceLT, Int.reduceLE]); (repeat ((first | simp only [h79] | rw [eq_n he] | (rw [lt_yes]; rotate_left; (first | omega | (simp [lenOf, app]; omega) | (simp only [lenOf]; omega))) | (rw [lt_no]; rotate_left; (first | omega | (simp [lenOf, app]; omega) | (simp only [lenOf]; omega))) | (rw [idxA_at]; rotate_left; (first | omega | (simp [lenOf, app]; omega) | (simp only [lenOf]; omega))) | (rw [wr_up]; rotate_left; (first | omega | (simp [lenOf, app]; omega) | (simp only [lenOf]; omega))) | ((first | rw [drop_cI] | rw [drop_cE] | rw [drop_cS] | rw [drop_cP] | rw [drop_cR]); rotate_left; assumption)); try simp only [go_sem, ↓reduceIte, Nat.reduceAdd, Nat.reduceEqDiff, Nat.reduceLT, Nat.reduceLeDiff, Nat.reduceBEq, Int.reduceEq, Int.reduceLT, Int.reduceLE]))
end Go.Proofs.Ytlhfeiacigmliaa

/- The wash-house's soap: what the functions compute: payments and sayings by words. -/
namespace Go.Proofs.Ytlhfeiacigmliaa
open Go
set_option maxRecDepth 10000

end Go.Proofs.Ytlhfeiacigmliaa

/- The wash-house's soap: what the functions compute: copies of lists in the heap or with rights, and sayings by words. -/
namespace Go.Proofs.Ytlhfeiacigmliaa
open Go
set_option maxRecDepth 10000

@[go_sem] theorem storeP_2_1 {a b' c' g h : AVal} {l : List AVal} {s : St} {b : Nat} : storeP (some (.cells (a :: b' :: c' :: l))) s b 1 [g, h] = some (s.set b (.cells (a :: g :: h :: l))) := by simp [storeP, splice]
end Go.Proofs.Ytlhfeiacigmliaa

/- The wash-house's soap: what the functions compute on memory that stays as it is. -/
namespace Go.Proofs.Ytlhfeiacigmliaa
open Go
set_option maxRecDepth 10000

theorem norms_vSl (S : Slate) : norms [vSl S] = [vSl S] := by simp only [norms_cons, norms_nil, vSl, norm_agg, norm_int, norm_vsl, sl, norms_cE, norms_cS]
/-- A slate whose lists lie in the heap. -/
def IceS (s : St) (v : AVal) (X : Slate) : Prop := fz 8 s v = some (vSl X)
theorem ice_one {s : St} {v : AVal} {X : Slate} (h : IceS s v X) : mapO (fz 8 s) [v] = some [vSl X] := mapO_cons h (mapO_nil _)
theorem k63i {s : St} {v : AVal} {X : Slate} (h : IceS s v X) : lim tbl (.call 12351 [v]) s = some (.ret, [i64 (checkSlate X)], s) :=
  lim_ice_of tbl_63 rfl rfl tbl_63v3 rfl rfl rfl rfl rfl (ice_one h) (norms_vSl X) (k63 X _)
end Go.Proofs.Ytlhfeiacigmliaa

/- The wash-house's soap: what the functions compute: the document's groups and payments. -/
namespace Go.Proofs.Ytlhfeiacigmliaa
open Go
set_option maxRecDepth 10000

def low (w : Nat) : Nat := band w (18446744073709551616 - w)
section
variable (S : Slate) (L : List Int) (hE : S.es.length < 1000000) (hL : L.length = S.es.length)
include hE hL
end
end Go.Proofs.Ytlhfeiacigmliaa

/- The wash-house's soap: what the functions compute: are lists groups; small lists. -/
namespace Go.Proofs.Ytlhfeiacigmliaa
open Go
set_option maxRecDepth 10000

section
variable (n : Nat) (es : List Ent) (ss : List Say) (L : List Int) (hn : n ≤ 6) (hE : es.length < 1000000) (hL : L.length = es.length) (G : List (List Int))
include hn hE hL
end
end Go.Proofs.Ytlhfeiacigmliaa

/- The wash-house's soap, plain law: all ounces are gone through by the program as by the document; which sayings are right together. -/
namespace Go.Proofs.Ytlhfeiacigmliaa
open Go
set_option maxRecDepth 10000

end Go.Proofs.Ytlhfeiacigmliaa

/- The wash-house's soap, plain law: what is asked of all truths is as the document says. -/
namespace Go.Proofs.Ytlhfeiacigmliaa
open Go
set_option maxRecDepth 10000

end Go.Proofs.Ytlhfeiacigmliaa

/- The plain law of groups: the most groups, as the program counts them, are as many as the document's. -/
namespace Go.Proofs.Ytlhfeiacigmliaa
open Go
set_option maxRecDepth 100000

def term (a : Nat → Int) (w i : Nat) : Int := if w.testBit i then a i else 0
def ps (a : Nat → Int) (w : Nat) : Int := term a w 0 + term a w 1 + term a w 2 + term a w 3 + term a w 4 + term a w 5
def Sb (g w : Nat) : Prop := ∀ i, g.testBit i = true → w.testBit i = true
theorem bor_t (a b i : Nat) : (bor a b).testBit i = (a.testBit i || b.testBit i) := by unfold bor; rw [Nat.testBit_or]
theorem bsub_t (a b i : Nat) : (bsub a b).testBit i = (a.testBit i && !b.testBit i) := by
  unfold bsub; rw [Nat.testBit_and, Nat.testBit_xor]
  cases a.testBit i <;> cases b.testBit i <;> rfl
theorem band_t (a b i : Nat) : (band a b).testBit i = (a.testBit i && b.testBit i) := by unfold band; rw [Nat.testBit_and]
theorem pw_t (i j : Nat) : (pw i).testBit j = decide (i = j) := by unfold pw; rw [Nat.testBit_two_pow]
theorem sb_band {g w : Nat} (h : Sb g w) : band g w = g := by
  apply Nat.eq_of_testBit_eq
  intro i
  rw [band_t]
  cases hg : g.testBit i with
  | false => rfl
  | true => rw [h i hg]; rfl
theorem Sb.refl (w : Nat) : Sb w w := fun _ h => h
theorem Sb.trans {a b c : Nat} (h : Sb a b) (h' : Sb b c) : Sb a c := fun i hi => h' i (h i hi)
theorem sb_sub (w g : Nat) : Sb (bsub w g) w := fun i h => by rw [bsub_t, Bool.and_eq_true] at h; exact h.1
theorem Sb.le {a b : Nat} (h : Sb a b) : a ≤ b := by rw [← sb_band h]; exact Nat.and_le_right
theorem sub_comm (w g g' : Nat) : bsub (bsub w g) g' = bsub (bsub w g') g := by
  apply Nat.eq_of_testBit_eq
  intro i
  simp only [bsub_t]
  cases w.testBit i <;> cases g.testBit i <;> cases g'.testBit i <;> rfl
theorem term_sub (a : Nat → Int) {w g : Nat} (h : Sb g w) (i : Nat) : term a (bsub w g) i = term a w i - term a g i := by
  unfold term
  rw [bsub_t]
  have := h i
  cases hw : w.testBit i <;> cases hg : g.testBit i <;> simp_all
theorem ps_sub (a : Nat → Int) {w g : Nat} (h : Sb g w) : ps a (bsub w g) = ps a w - ps a g := by
  unfold ps; simp only [term_sub a h]; omega
theorem ps_zero (a : Nat → Int) : ps a 0 = 0 := by simp [ps, term]
theorem ps_congr {a b : Nat → Int} {w : Nat} (h : ∀ i, i < 6 → w.testBit i = true → a i = b i) : ps a w = ps b w := by
  have ht : ∀ i, i < 6 → term a w i = term b w i := by
    intro i hi
    unfold term
    cases hw : w.testBit i with
    | false => rfl
    | true => simp [h i hi hw]
  unfold ps
  rw [ht 0 (by omega), ht 1 (by omega), ht 2 (by omega), ht 3 (by omega), ht 4 (by omega), ht 5 (by omega)]
inductive Part (a : Nat → Int) : Nat → Nat → Prop
  | nil : Part a 0 0
  | cons {w g n : Nat} (h0 : g ≠ 0) (hs : Sb g w) (hz : ps a g = 0) (h : Part a (bsub w g) n) : Part a w (n + 1)
theorem Part.sum {a : Nat → Int} {w n : Nat} (h : Part a w n) : ps a w = 0 := by
  induction h with
  | nil => exact ps_zero a
  | cons h0 hs hz h ih => rw [ps_sub a hs] at ih; omega
theorem Part.congr {a b : Nat → Int} {w n : Nat} (h : Part a w n) (hab : ∀ i, i < 6 → w.testBit i = true → a i = b i) : Part b w n := by
  induction h with
  | nil => exact .nil
  | cons h0 hs hz h ih =>
    exact .cons h0 hs (by rw [← ps_congr fun i hi hg => hab i hi (hs i hg)]; exact hz) (ih fun i hi hg => hab i hi (sb_sub _ _ i hg))
theorem Part.extract {a : Nat → Int} {w n : Nat} (h : Part a w n) : ∀ f, w.testBit f = true → ∃ g m, n = m + 1 ∧ Sb g w ∧ g.testBit f = true ∧ ps a g = 0 ∧ Part a (bsub w g) m := by
  induction h with
  | nil => intro f hf; simp at hf
  | @cons w g n h0 hs hz h ih =>
    intro f hf
    by_cases hg : g.testBit f = true
    · exact ⟨g, n, rfl, hs, hg, hz, h⟩
    · have hf' : (bsub w g).testBit f = true := by rw [bsub_t, hf]; simp [hg]
      obtain ⟨g', m, rfl, h1, h2, h3, h4⟩ := ih f hf'
      refine ⟨g', m + 1, rfl, h1.trans (sb_sub w g), h2, h3, .cons h0 ?_ hz ?_⟩
      · intro i hi
        rw [bsub_t, hs i hi]
        cases hi' : g'.testBit i with
        | false => rfl
        | true =>
          have := h1 i hi'
          rw [bsub_t, hi] at this; simp at this
      · rw [sub_comm]; exact h4
def pc (w : Nat) : Nat := (bitsOf w).length
theorem pc_facts : ∀ w, w < 64 → pc w ≤ 6 ∧ ∀ g, g < 64 → g ≠ 0 → band g w = g → pc (bsub w g) + 1 ≤ pc w := by
  have h : ((List.range 64).all fun w => decide (pc w ≤ 6) && (List.range 64).all fun g => decide (g = 0) || (!decide (band g w = g) || decide (pc (bsub w g) + 1 ≤ pc w))) = true := by kernel_rfl
  intro w hw
  rw [List.all_eq_true] at h
  have h1 := h w (by simpa using hw)
  rw [Bool.and_eq_true, decide_eq_true_eq] at h1
  refine ⟨h1.1, fun g hg h2 h3 => ?_⟩
  have h4 := h1.2
  rw [List.all_eq_true] at h4
  have h5 := h4 g (by simpa using hg)
  simpa [h2, h3] using h5
theorem Part.le {a : Nat → Int} {w n : Nat} (h : Part a w n) : w < 64 → n ≤ pc w := by
  induction h with
  | nil => intro _; omega
  | @cons w g n h0 hs hz h ih =>
    intro hw
    have h1 := ih (Nat.lt_of_le_of_lt (sb_sub w g).le hw)
    have h2 := (pc_facts w hw).2 g (Nat.lt_of_le_of_lt hs.le hw) h0 (sb_band hs)
    omega

end Go.Proofs.Ytlhfeiacigmliaa

/- The plain law of what is owed, and of the groups that the program returns. -/
namespace Go.Proofs.Ytlhfeiacigmliaa
open Go
set_option maxRecDepth 100000

theorem openUp_t (a : Nat → Int) (j : Nat) : ∀ (k i n : Nat), (openUp a n i k).testBit j = (n.testBit j || decide (i ≤ j ∧ j < i + k ∧ a j ≠ 0))
  | 0, i, n => by
    have : ¬ (i ≤ j ∧ j < i + 0 ∧ a j ≠ 0) := by omega
    simp only [openUp, this, decide_false, Bool.or_false]
  | k + 1, i, n => by
    rw [openUp, openUp_t a j k (i + 1)]
    by_cases hz : a i = 0
    · rw [if_pos hz]
      congr 2
      apply propext
      constructor
      · rintro ⟨h1, h2, h3⟩; exact ⟨by omega, by omega, h3⟩
      · rintro ⟨h1, h2, h3⟩
        have : i ≠ j := fun h => h3 (by rw [← h]; exact hz)
        exact ⟨by omega, by omega, h3⟩
    · rw [if_neg hz, bor_t, pw_t, Bool.or_assoc]
      congr 1
      by_cases hij : i = j
      · subst hij; simp [hz]
      · simp only [hij, decide_false, Bool.false_or]
        congr 1
        apply propext
        constructor
        · rintro ⟨h1, h2, h3⟩; exact ⟨by omega, by omega, h3⟩
        · rintro ⟨h1, h2, h3⟩; exact ⟨by omega, by omega, h3⟩
theorem open_t (a : Nat → Int) (j : Nat) : (openN a).testBit j = decide (j < 6 ∧ a j ≠ 0) := by
  unfold openN
  rw [openUp_t]
  simp
end Go.Proofs.Ytlhfeiacigmliaa

/- The wash-house's soap, plain law: the first wrong saying, and the smallest set, are as the document says. -/
namespace Go.Proofs.Ytlhfeiacigmliaa
open Go
set_option maxRecDepth 10000

end Go.Proofs.Ytlhfeiacigmliaa

/- From the evaluator to the rows: what a row gives, and what it wants. -/
namespace Go.Proofs.Ytlhfeiacigmliaa
open Go Go.ChangeShapes Go.RowKit
set_option maxRecDepth 100000

section
variable {H : Type} {enc : TypeId × Value → H} {P : Program} {w : World}
end

section
variable {H : Type} {enc : TypeId × Value → H} {w : World}
theorem c3 : Try.prog.cellsOf 3 = 1 := by kernel_rfl
theorem stays_all {P : Program} (hl : laidOutB P = true) {W W' : World} {sp : Nat → Bool} : ∀ {ts : List TypeId} {vs : List Value} {ds : List (DataW H)} {ps : List MemPlace}, (∀ t ∈ ts, P.readableRec t = true ∧ t < P.types.size) →
    DataW.TrodAll enc P W 0 (fun _ => true) true ts vs ds ps → (∀ p ∈ ps, W.sameAt W' p) → (∀ p ∈ ps, sp p.block = true) → DataW.TrodAll enc P W' 0 sp true ts vs ds ps
  | [], vs, ds, ps, _, h, _, _ => by
    cases vs <;> cases ds <;> simp_all [DataW.TrodAll]
  | t :: ts, vs, ds, ps, hr, h, hs, hp => by
    obtain ⟨v, vs', d, ds', p, q, rfl, rfl, rfl, hd, hrest⟩ := trodAll_cons h
    obtain ⟨r1, r2⟩ := hr t (by simp)
    exact ⟨p, q, Go.WideElems.Trod_stays hl r1 r2 hd (fun x hx => hs x (by simp [hx])) (fun x hx => hp x (by simp [hx])), stays_all hl (fun t ht => hr t (by simp [ht])) hrest (fun x hx => hs x (by simp [hx])) (fun x hx => hp x (by simp [hx])), rfl⟩
theorem laid : laidOutB Try.prog = true := by kernel_rfl
theorem shut_true {f : Func} {s : ChangeSpec} {W W' : World} {args : Array Value} {ds : List (DataW H)} {before : List MemPlace} {ρ' : Rho} (hW : DataW.Whole enc Try.prog f.params.toList s.vars false W args.toList ds [] before) (hv : s.vars = [])
    (hr : f.resultTypes.toList = [4]) (hrd : ∀ t ∈ f.params.toList, Try.prog.readableRec t = true ∧ t < Try.prog.types.size) (h1 : (s.fn H (ds ++ [])).results = [.lit (.bool true)]) (h2 : (s.fn H (ds ++ [])).args = ds) (h3 : (s.fn H (ds ++ [])).vars = [])
    (hF : Fwd (rho0 W) W ρ' W') : s.post enc Try.prog f false true false false W args (.bool true) W' := by
  have hb : ∀ R, R < W.heap.size → W'.heap[R]? = W.heap[R]? := fun R hR => hF.kept R hR (by
    rintro (⟨b, hb⟩ | ⟨p, r, hp, _⟩)
    · cases hb
    · cases hp)
  have hlt := hW.lt
  have hW0 := hW
  obtain ⟨p, q, hA, hV, rfl, _, _⟩ := hW0
  rw [hv] at hV
  obtain ⟨_, rfl⟩ := trodVars_none hV
  rw [List.append_nil] at hlt
  have hargs : DataW.TrodAll enc Try.prog W' 0 (fun b => decide (b < W.heap.size)) true f.params.toList args.toList ds p := by
    refine stays_all laid hrd hA (fun x hx => ?_) (fun x hx => by simpa using hlt x hx)
    cases x with
    | cell b o => exact World.cell?_of_block (w := W) (hb b (hlt _ hx))
    | map b => exact hb b (hlt _ hx)
  have hrs : f.resultTypes.size = 1 := by rw [← Array.length_toList, hr]; rfl
  refine ⟨ds, [], _, [], p, [], hW, ?_, ?_, ?_, ⟨hF.os, hF.output, fun i hi => ?_⟩, fun h => by cases h⟩
  · rw [h1, hr, hrs]
    refine trodAll_mk1 ⟨1, ?_⟩
    simp [DataW.trod, Try.underlying4, Value.cells]
  · rw [h2]; exact hargs
  · rw [h3, hv]; rfl
  · rw [hb i hi]; split <;> simp_all
end
end Go.Proofs.Ytlhfeiacigmliaa

/- The wash-house's soap: a slate with some of its sayings, and whether it has a truth. -/
namespace Go.Proofs.Ytlhfeiacigmliaa
open Go
set_option maxRecDepth 100000

end Go.Proofs.Ytlhfeiacigmliaa

/- The plain law of the fewest payments' number: the program's and the document's. -/
namespace Go.Proofs.Ytlhfeiacigmliaa
open Go
set_option maxRecDepth 100000

end Go.Proofs.Ytlhfeiacigmliaa

/- The plain law of payments: those that the program returns settle all, they are the fewest, and no others that settle all are fewer. -/
namespace Go.Proofs.Ytlhfeiacigmliaa
open Go
set_option maxRecDepth 100000

/-- A payment between two of so many women. -/
def PayW (w : Nat) (x : Pay) : Prop := ∃ f t : Nat, f < w ∧ t < w ∧ f ≠ t ∧ x.fr = Int.ofNat f ∧ x.to = Int.ofNat t ∧ 1 ≤ x.oz ∧ x.oz ≤ 240
theorem pc_sub : ∀ w, w < 64 → ∀ g, g < 64 → band g w = g → pc g + pc (bsub w g) = pc w := by
  have h : ((List.range 64).all fun w => (List.range 64).all fun g => (!decide (band g w = g) || decide (pc g + pc (bsub w g) = pc w))) = true := by kernel_rfl
  intro w hw g hg h2
  rw [List.all_eq_true] at h
  have h4 := h w (by simpa using hw)
  rw [List.all_eq_true] at h4
  have h5 := h4 g (by simpa using hg)
  simpa [h2] using h5
theorem pc_pos : ∀ w, w < 64 → w ≠ 0 → 0 < pc w := by
  have h : ((List.range 64).all fun w => decide (w = 0) || decide (0 < pc w)) = true := by kernel_rfl
  intro w hw h0
  rw [List.all_eq_true] at h
  have h1 := h w (by simpa using hw)
  simpa [h0] using h1
/-- Women who are owed 0 are left out of groups. -/
theorem Part.open {a : Nat → Int} {w n : Nat} (h : Part a w n) : w < 64 → ∃ m, Part a (band w (openN a)) m ∧ n + pc (band w (openN a)) ≤ m + pc w := by
  induction h with
  | nil => intro _; exact ⟨0, by rw [show band 0 (openN a) = 0 from by unfold band; simp]; exact .nil, by rw [show band 0 (openN a) = 0 from by unfold band; simp]; omega⟩
  | @cons w g n h0 hs hz h ih =>
    intro hw
    have hg : g < 64 := Nat.lt_of_le_of_lt hs.le hw
    have hr : bsub w g < 64 := Nat.lt_of_le_of_lt (sb_sub w g).le hw
    obtain ⟨m, h1, h2⟩ := ih hr
    have hbl : ∀ u, u < 64 → band u (openN a) < 64 := fun u hu => Nat.lt_of_le_of_lt Nat.and_le_left hu
    have e1 : bsub (band w (openN a)) (band g (openN a)) = band (bsub w g) (openN a) := by
      apply Nat.eq_of_testBit_eq
      intro i
      simp only [bsub_t, band_t]
      cases w.testBit i <;> cases g.testBit i <;> cases (openN a).testBit i <;> rfl
    have s1 : Sb (band g (openN a)) (band w (openN a)) := by
      intro i hi
      rw [band_t, Bool.and_eq_true] at hi
      rw [band_t, hs i hi.1, hi.2]; rfl
    have c1 := pc_sub w hw g hg (sb_band hs)
    have c2 := pc_sub (band w (openN a)) (hbl w hw) (band g (openN a)) (hbl g hg) (sb_band s1)
    have hgo : pc (band g (openN a)) ≤ pc g := by
      have h3 : Sb (band g (openN a)) g := fun i hi => by rw [band_t, Bool.and_eq_true] at hi; exact hi.1
      have := pc_sub g hg (band g (openN a)) (hbl g hg) (sb_band h3)
      omega
    have hpz : ps a (band g (openN a)) = ps a g := by
      have ht : ∀ i, i < 6 → term a (band g (openN a)) i = term a g i := by
        intro i hi
        unfold term
        rw [band_t, open_t]
        by_cases h : a i = 0
        · simp [h]
        · simp [h, hi]
      unfold ps
      rw [ht 0 (by omega), ht 1 (by omega), ht 2 (by omega), ht 3 (by omega), ht 4 (by omega), ht 5 (by omega)]
    rw [e1] at c2
    by_cases hgz : band g (openN a) = 0
    · refine ⟨m, ?_, ?_⟩
      · have : band w (openN a) = band (bsub w g) (openN a) := by
          rw [← e1, hgz]
          apply Nat.eq_of_testBit_eq
          intro i; rw [bsub_t]; simp
        rw [this]; exact h1
      · have := pc_pos g hg h0
        rw [hgz] at c2
        have : pc 0 = 0 := rfl
        omega
    · exact ⟨m + 1, .cons hgz s1 (by rw [hpz]; exact hz) (by rw [e1]; exact h1), by omega⟩
end Go.Proofs.Ytlhfeiacigmliaa

/- The plain law of groups and payments of a slate that is valid, with ounces. -/
namespace Go.Proofs.Ytlhfeiacigmliaa
open Go
set_option maxRecDepth 100000

end Go.Proofs.Ytlhfeiacigmliaa

/- The plain law of payments that settle: by the program as by the document. -/
namespace Go.Proofs.Ytlhfeiacigmliaa
open Go
set_option maxRecDepth 100000

section
variable {S : Slate} {L : List Int} (hc : checkSlate S = 0) (ha : areOz S.es L = true) {P : List Pay} (hP : P.length ≤ 1000) (hW : ∀ x ∈ P, PayW S.women.toNat x)
include hc ha hP hW
end
end Go.Proofs.Ytlhfeiacigmliaa

/- From the evaluator to the rows: arguments beside a slate. -/
namespace Go.Proofs.Ytlhfeiacigmliaa
open Go Go.ChangeShapes Go.RowKit
set_option maxRecDepth 100000
section
variable {H : Type} {enc : TypeId × Value → H} {w : World} {base : Nat}
end
end Go.Proofs.Ytlhfeiacigmliaa
