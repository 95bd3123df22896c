/- The law SoapApart answers true for every slate and number: each group is owed 0 in sum, no woman is in two of them, and all women that are not owed 0 are in one; the fewest payments are none if and only if nobody is owed anything. -/
import Derived.Test.YtlhfeiacigmliaaPartI
set_option linter.all false
namespace Go.Proofs.Ytlhfeiacigmliaa
open Go Go.ChangeShapes Go.RowKit
set_option maxRecDepth 100000

def cB (n m : Nat) : List AVal := (List.range n).map fun j => .bool (m.testBit j)
theorem nthO_cB {n m j : Nat} (h : j < n) : nthO (some (.cells (cB n m))) (na 0 (Nat.mul j 1)) = some (.bool (m.testBit j)) := by
  rw [show na 0 (Nat.mul j 1) = j by simp [na]]
  simp [nthO, cB, h]
theorem set_cB {n m j : Nat} (h : j < n) : (cB n m).set j (.bool true) = cB n (bor m (pw j)) := by
  apply List.ext_getElem
  · simp [cB]
  · intro i h1 h2
    simp only [cB, List.length_map, List.length_range] at h2
    rw [List.getElem_set]
    simp only [cB, List.getElem_map, List.getElem_range, bor_t, pw_t]
    by_cases hji : j = i
    · subst hji; simp
    · simp [hji]
theorem storeP_cB {n m j : Nat} (h : j < n) (s : St) (b : Nat) : storeP (some (.cells (cB n m))) s b (na 0 (Nat.mul j 1)) [.bool true] = some (s.set b (.cells (cB n (bor m (pw j))))) := by
  rw [show na 0 (Nat.mul j 1) = j by simp [na]]
  simp only [storeP, splice, List.length_singleton]
  rw [if_pos (by simp [cB]; omega), set_cB h]
theorem repl_cB (n : Nat) : repl [.bool false] n = cB n 0 := by
  have h : ∀ n, repl [.bool false] n = List.replicate n (.bool false) := by
    intro n
    induction n with
    | zero => rfl
    | succ n ih => rw [repl, ih, List.replicate_succ]; rfl
  rw [h]
  apply List.ext_getElem
  · simp [cB]
  · intro i h1 h2; simp [cB]
theorem mkB_at {n : Nat} (h : n < 1000000) (N : Nat) (O : List AObj) (p : Nat) (q : Nat → Nat) : mkS [.bool false] 1 (i64 (Int.ofNat n)) (i64 (Int.ofNat n)) ⟨N, O, p, q⟩ = some (.hsl N 0 n (some n), ⟨na N 1, .cells (cB n 0) :: O, p, q⟩) := by
  unfold mkS i64
  simp only
  rw [if_pos ⟨by simp, by simp, by simp; omega, by simp; omega⟩]
  simp only [Int.ofNat_eq_natCast, Int.toNat_natCast, repl_cB]
  rfl
def orL : Nat → List Nat → Nat
  | m, [] => m
  | m, j :: l => orL (bor m (pw j)) l
theorem orL_t (j : Nat) : ∀ (l : List Nat) (m : Nat), (orL m l).testBit j = (m.testBit j || l.contains j)
  | [], m => by simp [orL]
  | x :: l, m => by
    rw [orL, orL_t j l, bor_t, pw_t, List.contains_cons, Bool.or_assoc]
    congr 2
    by_cases h : x = j
    · subst h; simp
    · simp [h, Ne.symm h]
theorem l6_get {a : Nat → Int} {w j : Nat} (h : j < w) : (l6 a w)[j]? = some (a j) := by simp [l6, h]
theorem l8_0 (n : Nat) (hn : n ≤ 6) (es : List Ent) (ss : List Say) (a : Nat → Int) (hs : Small a) (G : List (List Int)) (hG : G.length ≤ 6) (i : Nat) (js : List Nat) (hj : js.length ≤ 6) (hV : G[i]? = some (ints js)) (tP : AVal) (N : Nat) (O : List AObj) (p : Nat) (q : Nat → Nat) :
    ∀ (k c m : Nat) (sum : Int), c + k = js.length → (∀ j ∈ js.drop c, j < n ∧ a j ≠ 0 ∧ m.testBit j = false) → (js.drop c).Nodup → -(1000000000 * (c : Int)) ≤ sum → sum ≤ 1000000000 * (c : Int) →
    lim tbl (.loop a8_l0 168 ⟨[2, 6, 8, 10, 12, 13, 14, 15], [2, 6, 8, 10, 12, 13, 14], [4]⟩ [.vref [i64 (Int.ofNat n), sl cE es, sl cS ss], sl cI (l6 a n), sl cL G, tP, .hsl N 0 n (some n), i64 (Int.ofNat i), i64 sum, i64 (Int.ofNat c)]) ⟨na N 1, .cells (cB n m) :: O, p, q⟩
      = some (.exit 2, [.vref [i64 (Int.ofNat n), sl cE es, sl cS ss], sl cI (l6 a n), sl cL G, tP, .hsl N 0 n (some n), i64 (Int.ofNat i), i64 (sum + sumL a (js.drop c))], ⟨na N 1, .cells (cB n (orL m (js.drop c))) :: O, p, q⟩) := by
  have hdl := drop_cL hV
  have hlj : lenOf (ints js) = js.length := by simp [lenOf, ints]
  have hil : i < lenOf G := (List.getElem?_eq_some_iff.1 hV).1
  intro k
  induction k with
  | zero =>
    intro c m sum hc _ _ _ _
    rw [List.drop_eq_nil_of_le (by omega), orL, sumL, lim_loop, Int.add_zero]
    (try simp only [go_sem, ↓reduceIte, Nat.reduceAdd, Nat.reduceEqDiff, Nat.reduceLT, Nat.reduceLeDiff, Nat.reduceBEq, Int.reduceEq, Int.reduceLT, Int.reduceLE]); (repeat ((first | rw [hdl] | (rw [lt_yes]; rotate_left; (first | omega | (simp [lenOf, app]; omega) | (simp only [lenOf]; omega))) | (rw [lt_no]; rotate_left; (first | omega | (simp [lenOf, app]; omega) | (simp only [lenOf]; omega))) | (rw [idxA_at]; rotate_left; (first | omega | (simp [lenOf, app]; omega) | (simp only [lenOf]; omega))) | (rw [wr_up]; rotate_left; (first | omega | (simp [lenOf, app]; omega) | (simp only [lenOf]; omega))) | ((first | rw [drop_cI] | rw [drop_cE] | rw [drop_cS] | rw [drop_cP] | rw [drop_cR]); rotate_left; assumption)); try simp only [go_sem, ↓reduceIte, Nat.reduceAdd, Nat.reduceEqDiff, Nat.reduceLT, Nat.reduceLeDiff, Nat.reduceBEq, Int.reduceEq, Int.reduceLT, Int.reduceLE]))
  | succ k ih =>
    intro c m sum hc hA hN h1 h2
    have hlt : c < js.length := by omega
    obtain ⟨j, hjc, hd⟩ := getElem_drop hlt
    have hji := map_get hjc
    have hdi := drop_cI hji
    obtain ⟨hjn, hj0, hjm⟩ := hA j (by rw [hd]; simp)
    have hdn := drop_cI (l6_get (a := a) hjn)
    have hll : lenOf (l6 a n) = n := l6_len a n
    have hw : within (Int.ofNat j) 0 (wr .i64 (Int.sub (Int.ofNat n) 1)) = true := by
      rw [fold_sub, wr_in (by simp; omega) (by simp; omega), within_iff]; simp; omega
    have hsj := hs j
    have hwr : wr .i64 (Int.add sum (a j)) = sum + a j := by rw [fold_add, wr_in] <;> omega
    have n1 := nthO_cB (m := m) hjn
    rw [hjm] at n1
    have s1 := fun s b => storeP_cB (m := m) hjn s b
    have hN' := hN
    rw [hd, List.nodup_cons] at hN'
    have h' := ih (c + 1) (bor m (pw j)) (sum + a j) (by omega) (fun x hx => by
      have := hA x (by rw [hd]; simp [hx])
      refine ⟨this.1, this.2.1, ?_⟩
      rw [bor_t, pw_t, this.2.2]
      have : j ≠ x := fun h => hN'.1 (by rw [h]; exact hx)
      simp [this]) hN'.2 (by omega) (by omega)
    rw [hd, orL, sumL, ← Int.add_assoc, lim_loop]
    generalize hR : some (_, _, _) = R at h' ⊢
    (try simp only [go_sem, ↓reduceIte, Nat.reduceAdd, Nat.reduceEqDiff, Nat.reduceLT, Nat.reduceLeDiff, Nat.reduceBEq, Int.reduceEq, Int.reduceLT, Int.reduceLE]); (repeat ((first | rw [hdl] | rw [hdi] | rw [hw] | rw [n1] | rw [s1] | rw [hdn] | rw [eq_n hj0] | rw [hwr] | (rw [lt_yes]; rotate_left; (first | omega | (simp [lenOf, app]; omega) | (simp only [lenOf]; omega))) | (rw [lt_no]; rotate_left; (first | omega | (simp [lenOf, app]; omega) | (simp only [lenOf]; omega))) | (rw [idxA_at]; rotate_left; (first | omega | (simp [lenOf, app]; omega) | (simp only [lenOf]; omega))) | (rw [wr_up]; rotate_left; (first | omega | (simp [lenOf, app]; omega) | (simp only [lenOf]; omega))) | ((first | rw [drop_cI] | rw [drop_cE] | rw [drop_cS] | rw [drop_cP] | rw [drop_cR]); rotate_left; assumption)); try simp only [go_sem, ↓reduceIte, Nat.reduceAdd, Nat.reduceEqDiff, Nat.reduceLT, Nat.reduceLeDiff, Nat.reduceBEq, Int.reduceEq, Int.reduceLT, Int.reduceLE]))
    exact h'
theorem bits_js {g : Nat} (hg : g < 64) : bitsOf g = ints ((List.range 6).filter g.testBit) := bits_list g hg
theorem l8_1 (n : Nat) (hn : n ≤ 6) (es : List Ent) (ss : List Say) (a : Nat → Int) (hs : Small a) (gs : List Nat) (hgl : gs.length ≤ 6) (hg : ∀ g ∈ gs, g < 64) (tP : AVal) (N : Nat) (O : List AObj) (p : Nat) (q : Nat → Nat) :
    ∀ (k i m left : Nat), i + k = gs.length → GrpsOk (ps a) left (gs.drop i) → (∀ j, left.testBit j = true → j < n ∧ a j ≠ 0 ∧ m.testBit j = false) →
    lim tbl (.loop a8_l1 168 ⟨[2, 6, 8, 10, 12, 13], [2, 6, 10, 12], [4]⟩ [.vref [i64 (Int.ofNat n), sl cE es, sl cS ss], sl cI (l6 a n), sl cL (gs.map bitsOf), tP, .hsl N 0 n (some n), i64 (Int.ofNat i)]) ⟨na N 1, .cells (cB n m) :: O, p, q⟩
      = some (.exit 0, [.vref [i64 (Int.ofNat n), sl cE es, sl cS ss], sl cI (l6 a n), tP, .hsl N 0 n (some n)], ⟨na N 1, .cells (cB n (bor m left)) :: O, p, q⟩) := by
  have hGl : lenOf (gs.map bitsOf) = gs.length := by simp [lenOf]
  intro k
  induction k with
  | zero =>
    intro i m left hi hk _
    rw [List.drop_eq_nil_of_le (by omega)] at hk
    obtain rfl : left = 0 := hk
    rw [show bor m 0 = m from Nat.or_zero m, lim_loop]
    generalize gs.map bitsOf = G at hGl ⊢
    (try simp only [go_sem, ↓reduceIte, Nat.reduceAdd, Nat.reduceEqDiff, Nat.reduceLT, Nat.reduceLeDiff, Nat.reduceBEq, Int.reduceEq, Int.reduceLT, Int.reduceLE]); (repeat ((first | (rw [lt_yes]; rotate_left; (first | omega | (simp [lenOf, app]; omega) | (simp only [lenOf]; omega))) | (rw [lt_no]; rotate_left; (first | omega | (simp [lenOf, app]; omega) | (simp only [lenOf]; omega))) | (rw [idxA_at]; rotate_left; (first | omega | (simp [lenOf, app]; omega) | (simp only [lenOf]; omega))) | (rw [wr_up]; rotate_left; (first | omega | (simp [lenOf, app]; omega) | (simp only [lenOf]; omega))) | ((first | rw [drop_cI] | rw [drop_cE] | rw [drop_cS] | rw [drop_cP] | rw [drop_cR]); rotate_left; assumption)); try simp only [go_sem, ↓reduceIte, Nat.reduceAdd, Nat.reduceEqDiff, Nat.reduceLT, Nat.reduceLeDiff, Nat.reduceBEq, Int.reduceEq, Int.reduceLT, Int.reduceLE]))
  | succ k ih =>
    intro i m left hi hk hA
    have hlt : i < gs.length := by omega
    obtain ⟨g, hgi, hd⟩ := getElem_drop hlt
    have hg64 := hg g (List.mem_of_getElem? hgi)
    rw [hd] at hk
    obtain ⟨g0, g1, g2, g3⟩ := hk
    have hsb := band_sb g1
    have hV : (gs.map bitsOf)[i]? = some (ints ((List.range 6).filter g.testBit)) := by rw [List.getElem?_map, hgi, ← bits_js hg64]; rfl
    have hm : ∀ j, j ∈ (List.range 6).filter g.testBit ↔ g.testBit j = true := by
      intro j
      rw [List.mem_filter, List.mem_range]
      exact ⟨fun h => h.2, fun h => ⟨bit_lt6 hg64 h, h⟩⟩
    have hjl : ((List.range 6).filter g.testBit).length ≤ 6 := Nat.le_trans (List.length_filter_le _ _) (by simp)
    have hne : ¬ Int.ofNat (lenOf (ints ((List.range 6).filter g.testBit))) = 0 := by
      obtain ⟨j, hj⟩ := ne_bit g0
      have := List.length_pos_of_mem ((hm j).2 hj)
      simp only [lenOf, ints, List.length_map]
      intro h
      simp only [Int.ofNat_eq_natCast] at h
      omega
    have hsum : (0 : Int) + sumL a ((List.range 6).filter g.testBit) = 0 := by rw [sumL_filter, psl_6, g2]; rfl
    have hor : orL m ((List.range 6).filter g.testBit) = bor m g := by
      apply Nat.eq_of_testBit_eq
      intro j
      rw [orL_t, bor_t]
      congr 1
      cases hj : g.testBit j with
      | true => exact List.contains_iff_mem.mpr ((hm j).2 hj)
      | false =>
        cases hc : ((List.range 6).filter g.testBit).contains j with
        | false => rfl
        | true => rw [(hm j).1 (List.contains_iff_mem.mp hc)] at hj; cases hj
    have h0 := l8_0 n hn es ss a hs (gs.map bitsOf) (by rw [List.length_map]; exact hgl) i _ hjl hV tP N O p q ((List.range 6).filter g.testBit).length 0 m 0 (by omega) (fun j hj => hA j (hsb j ((hm j).1 (by simpa using hj)))) (by rw [List.drop_zero]; exact List.nodup_range.sublist List.filter_sublist) (by simp) (by simp)
    rw [List.drop_zero, hsum, hor, ofNat_0] at h0
    have h' := ih (i + 1) (bor m g) (bsub left g) (by omega) g3 (fun j hj => by
      rw [bsub_t, Bool.and_eq_true] at hj
      obtain ⟨x1, x2, x3⟩ := hA j hj.1
      refine ⟨x1, x2, ?_⟩
      rw [bor_t, x3]
      cases hgj : g.testBit j with
      | false => rfl
      | true => rw [hgj] at hj; simp at hj)
    have hun : bor (bor m g) (bsub left g) = bor m left := by
      apply Nat.eq_of_testBit_eq
      intro j
      simp only [bor_t, bsub_t]
      have := hsb j
      cases hgj : g.testBit j <;> cases hlj : left.testBit j <;> simp_all
    rw [hun] at h'
    have hdl := drop_cL hV
    generalize gs.map bitsOf = G at hGl h0 h' hdl ⊢
    generalize ints ((List.range 6).filter g.testBit) = V at hdl hne
    rw [lim_loop]
    generalize hR : some (_, _, _) = R at h' ⊢
    (try simp only [go_sem, ↓reduceIte, Nat.reduceAdd, Nat.reduceEqDiff, Nat.reduceLT, Nat.reduceLeDiff, Nat.reduceBEq, Int.reduceEq, Int.reduceLT, Int.reduceLE]); (repeat ((first | rw [h0] | rw [hdl] | rw [eq_n hne] | (rw [lt_yes]; rotate_left; (first | omega | (simp [lenOf, app]; omega) | (simp only [lenOf]; omega))) | (rw [lt_no]; rotate_left; (first | omega | (simp [lenOf, app]; omega) | (simp only [lenOf]; omega))) | (rw [idxA_at]; rotate_left; (first | omega | (simp [lenOf, app]; omega) | (simp only [lenOf]; omega))) | (rw [wr_up]; rotate_left; (first | omega | (simp [lenOf, app]; omega) | (simp only [lenOf]; omega))) | ((first | rw [drop_cI] | rw [drop_cE] | rw [drop_cS] | rw [drop_cP] | rw [drop_cR]); rotate_left; assumption)); try simp only [go_sem, ↓reduceIte, Nat.reduceAdd, Nat.reduceEqDiff, Nat.reduceLT, Nat.reduceLeDiff, Nat.reduceBEq, Int.reduceEq, Int.reduceLT, Int.reduceLE]))
    exact h'
theorem l8_2 (n : Nat) (hn : n ≤ 6) (es : List Ent) (ss : List Say) (a : Nat → Int) (m : Nat) (hm : ∀ j, j < n → m.testBit j = true ∨ a j = 0) (tP : AVal) (N : Nat) (O : List AObj) (p : Nat) (q : Nat → Nat) : ∀ (k i : Nat), i + k = n →
    lim tbl (.loop a8_l2 168 ⟨[2, 6, 10, 12, 17], [2, 6, 10], [4]⟩ [.vref [i64 (Int.ofNat n), sl cE es, sl cS ss], sl cI (l6 a n), tP, .hsl N 0 n (some n), i64 (Int.ofNat i)]) ⟨na N 1, .cells (cB n m) :: O, p, q⟩
      = some (.exit 4, [.vref [i64 (Int.ofNat n), sl cE es, sl cS ss], sl cI (l6 a n), tP], ⟨na N 1, .cells (cB n m) :: O, p, q⟩) := by
  intro k
  induction k with
  | zero =>
    intro i hi
    rw [lim_loop]
    (try simp only [go_sem, ↓reduceIte, Nat.reduceAdd, Nat.reduceEqDiff, Nat.reduceLT, Nat.reduceLeDiff, Nat.reduceBEq, Int.reduceEq, Int.reduceLT, Int.reduceLE]); (repeat ((first | (rw [lt_yes]; rotate_left; (first | omega | (simp [lenOf, app]; omega) | (simp only [lenOf]; omega))) | (rw [lt_no]; rotate_left; (first | omega | (simp [lenOf, app]; omega) | (simp only [lenOf]; omega))) | (rw [idxA_at]; rotate_left; (first | omega | (simp [lenOf, app]; omega) | (simp only [lenOf]; omega))) | (rw [wr_up]; rotate_left; (first | omega | (simp [lenOf, app]; omega) | (simp only [lenOf]; omega))) | ((first | rw [drop_cI] | rw [drop_cE] | rw [drop_cS] | rw [drop_cP] | rw [drop_cR]); rotate_left; assumption)); try simp only [go_sem, ↓reduceIte, Nat.reduceAdd, Nat.reduceEqDiff, Nat.reduceLT, Nat.reduceLeDiff, Nat.reduceBEq, Int.reduceEq, Int.reduceLT, Int.reduceLE]))
  | succ k ih =>
    intro i hi
    have hlt : i < n := by omega
    have h' := ih (i + 1) (by omega)
    have hdn := drop_cI (l6_get (a := a) hlt)
    have hll : lenOf (l6 a n) = n := l6_len a n
    have n1 := nthO_cB (m := m) hlt
    rw [lim_loop]
    generalize hR : some (_, _, _) = R at h' ⊢
    cases hb : m.testBit i with
    | true =>
      rw [hb] at n1
      (try simp only [go_sem, ↓reduceIte, Nat.reduceAdd, Nat.reduceEqDiff, Nat.reduceLT, Nat.reduceLeDiff, Nat.reduceBEq, Int.reduceEq, Int.reduceLT, Int.reduceLE]); (repeat ((first | rw [n1] | (rw [lt_yes]; rotate_left; (first | omega | (simp [lenOf, app]; omega) | (simp only [lenOf]; omega))) | (rw [lt_no]; rotate_left; (first | omega | (simp [lenOf, app]; omega) | (simp only [lenOf]; omega))) | (rw [idxA_at]; rotate_left; (first | omega | (simp [lenOf, app]; omega) | (simp only [lenOf]; omega))) | (rw [wr_up]; rotate_left; (first | omega | (simp [lenOf, app]; omega) | (simp only [lenOf]; omega))) | ((first | rw [drop_cI] | rw [drop_cE] | rw [drop_cS] | rw [drop_cP] | rw [drop_cR]); rotate_left; assumption)); try simp only [go_sem, ↓reduceIte, Nat.reduceAdd, Nat.reduceEqDiff, Nat.reduceLT, Nat.reduceLeDiff, Nat.reduceBEq, Int.reduceEq, Int.reduceLT, Int.reduceLE]))
      exact h'
    | false =>
      rw [hb] at n1
      have hz : a i = 0 := by
        rcases hm i hlt with h | h
        · rw [hb] at h; cases h
        · exact h
      (try simp only [go_sem, ↓reduceIte, Nat.reduceAdd, Nat.reduceEqDiff, Nat.reduceLT, Nat.reduceLeDiff, Nat.reduceBEq, Int.reduceEq, Int.reduceLT, Int.reduceLE]); (repeat ((first | rw [n1] | rw [hdn] | rw [eq_y hz] | (rw [lt_yes]; rotate_left; (first | omega | (simp [lenOf, app]; omega) | (simp only [lenOf]; omega))) | (rw [lt_no]; rotate_left; (first | omega | (simp [lenOf, app]; omega) | (simp only [lenOf]; omega))) | (rw [idxA_at]; rotate_left; (first | omega | (simp [lenOf, app]; omega) | (simp only [lenOf]; omega))) | (rw [wr_up]; rotate_left; (first | omega | (simp [lenOf, app]; omega) | (simp only [lenOf]; omega))) | ((first | rw [drop_cI] | rw [drop_cE] | rw [drop_cS] | rw [drop_cP] | rw [drop_cR]); rotate_left; assumption)); try simp only [go_sem, ↓reduceIte, Nat.reduceAdd, Nat.reduceEqDiff, Nat.reduceLT, Nat.reduceLeDiff, Nat.reduceBEq, Int.reduceEq, Int.reduceLT, Int.reduceLE]))
      exact h'
theorem zeros_same {a : Nat → Int} {n : Nat} : sameL (l6 a n) (zerosL n) = decide (∀ j, j < n → a j = 0) := by
  unfold sameL
  congr 1
  apply propext
  constructor
  · intro h j hj
    have h1 : (l6 a n)[j]? = some (a j) := l6_get hj
    rw [h] at h1
    simp [zerosL, hj] at h1
    exact h1.symm
  · intro h
    apply List.ext_getElem
    · simp [l6, zerosL]
    · intro i h1 h2
      simp only [l6, List.length_map, List.length_range] at h1
      simp [l6, zerosL, h i h1]
theorem k8 (S : Slate) (t : Nat) (ht : t < 65536) (s : St) : lim tbl (.call 8 [vSl S, .int .u16 (Int.ofNat t)]) s = some (.ret, [.bool true], s) := by
  have h46 := fun s => k46 S s
  have h22 := fun s => k22 s
  rw [lim_call tbl_8]
  cases hT : readyS S with
  | false =>
    rw [hT] at h46
    obtain ⟨w, es, ss⟩ := S
    obtain ⟨N, O, p, q⟩ := s
    (try simp only [go_sem, ↓reduceIte, Nat.reduceAdd, Nat.reduceEqDiff, Nat.reduceLT, Nat.reduceLeDiff, Nat.reduceBEq, Int.reduceEq, Int.reduceLT, Int.reduceLE]); (repeat ((first | simp only [h46] | simp only [h22] | (rw [lt_yes]; rotate_left; (first | omega | (simp [lenOf, app]; omega) | (simp only [lenOf]; omega))) | (rw [lt_no]; rotate_left; (first | omega | (simp [lenOf, app]; omega) | (simp only [lenOf]; omega))) | (rw [idxA_at]; rotate_left; (first | omega | (simp [lenOf, app]; omega) | (simp only [lenOf]; omega))) | (rw [wr_up]; rotate_left; (first | omega | (simp [lenOf, app]; omega) | (simp only [lenOf]; omega))) | ((first | rw [drop_cI] | rw [drop_cE] | rw [drop_cS] | rw [drop_cP] | rw [drop_cR]); rotate_left; assumption)); try simp only [go_sem, ↓reduceIte, Nat.reduceAdd, Nat.reduceEqDiff, Nat.reduceLT, Nat.reduceLeDiff, Nat.reduceBEq, Int.reduceEq, Int.reduceLT, Int.reduceLE]))
  | true =>
    rw [hT] at h46
    obtain ⟨hc, hT1⟩ := ready_inv hT
    obtain ⟨hl1, hl2⟩ := thin_len hT1
    have hG := good_of_check hc
    have hw0 := hG.w0
    have hw6 := hG.w6
    obtain ⟨hm, hM⟩ := many_of_check hc
    have h51 := fun s => k51 S (by omega) s
    rw [hM] at h51
    have hpos := prodN_pos hG.oe
    have hwt : wr .i64 (Int.ofNat t) = Int.ofNat t := wr_nat (by omega)
    have hrem : remI (Int.ofNat t) (Int.ofNat (prodN S.es)) = some (i64 (Int.ofNat (bmod t (prodN S.es)))) := rem_at (by omega)
    have hbm : bmod t (prodN S.es) < prodN S.es := Nat.mod_lt _ hpos
    generalize prodN S.es = M at h51 hrem hm hbm
    have hnz : ¬ Int.ofNat M = 0 := by simp; omega
    have h50 := fun s => k50 S (bmod t M) (by omega) hG.oe (by omega) s
    have ha := nth_areOz hG.oe (bmod t M)
    generalize bmod t M = u at hrem h50 ha
    have hLl := areOz_len ha
    generalize nthRef S.es u = L at h50 ha hLl
    obtain ⟨hE, ho, hp⟩ := play_facts hc ha
    obtain ⟨gs, g1, g2, g3, g4, g5, g6⟩ := groups_nat hc ha
    obtain ⟨p1, p2, p3, p4⟩ := settle_facts hc ha
    have hs : Small (owV S.es L) := fun j => by have := ow240 hc ha j; omega
    have hfar := ow_far hc ha
    have h24 := fun s => k24 S (by omega) (by omega) s
    have h31 := fun s => k31 L (by omega) s
    have h52 := fun s => k52 S L (fun _ => hG) s
    have h30 := fun s => k30 S L s
    have h53 := fun s => k53 S L s
    rw [hp, hE] at h52
    rw [hE] at h30 h53
    have h36 := fun s => k36 (groupsP S L) (by rw [g1, List.length_map]; exact g4) g6 s
    rw [g1] at h30 h36
    generalize owV S.es L = a at h52 g2 g3 p2 p4 hs hfar
    have hpe : decide (Int.ofNat (lenOf (settleP S L)) = 0) = decide (∀ j, j < S.women.toNat → a j = 0) := by
      congr 1
      apply propext
      constructor
      · intro h j _
        have h0 : settleP S L = [] := List.length_eq_zero_iff.mp (Int.ofNat.inj h)
        have := p2 j
        rw [h0] at this
        simpa [paysD] using this
      · intro h
        have h0 : openN a = 0 := by
          apply Nat.eq_of_testBit_eq
          intro j
          rw [open_t, Nat.zero_testBit, decide_eq_false_iff_not]
          rintro ⟨_, h2⟩
          rcases Nat.lt_or_ge j S.women.toNat with hj | hj
          · exact h2 (h j hj)
          · exact h2 (hfar j hj)
        rw [h0, show pc 0 = 0 from rfl] at p4
        have : (settleP S L).length = 0 := by omega
        unfold lenOf; rw [this]; rfl
    obtain ⟨n, hnw⟩ : ∃ n : Nat, S.women = Int.ofNat n := ⟨S.women.toNat, by simp; omega⟩
    have hn6 : n ≤ 6 := by rw [hnw] at hw6; change (n : Int) ≤ 6 at hw6; omega
    rw [hnw] at hpe h52
    simp only [show (Int.ofNat n).toNat = n from rfl] at hpe h52
    have hopen : ∀ j, (openN a).testBit j = true → j < n ∧ a j ≠ 0 ∧ (0 : Nat).testBit j = false := by
      intro j hj
      rw [open_t, decide_eq_true_eq] at hj
      refine ⟨?_, hj.2, by simp⟩
      rcases Nat.lt_or_ge j n with h | h
      · exact h
      · exact absurd (hfar j (by rw [hnw]; exact h)) hj.2
    have hseen : ∀ j, j < n → (bor 0 (openN a)).testBit j = true ∨ a j = 0 := by
      intro j hj
      rw [bor_t, open_t]
      by_cases h : a j = 0
      · exact Or.inr h
      · left; simp [h]; omega
    obtain ⟨N, O, p, q⟩ := s
    obtain ⟨w, es, ss⟩ := S
    simp only at hnw
    subst hnw
    have hmk := mkB_at (n := n) (by omega) N O p q
    have hmz := mkS_at (n := n) (by omega) (na N 1) (.cells (cB n (bor 0 (openN a))) :: O) p q
    have h1 := l8_1 n hn6 es ss a hs gs g4 g5 (sl cP (settleP ⟨Int.ofNat n, es, ss⟩ L)) N O p q gs.length 0 0 (openN a) (by omega) g2 hopen
    have h2 := l8_2 n hn6 es ss a (bor 0 (openN a)) hseen (sl cP (settleP ⟨Int.ofNat n, es, ss⟩ L)) N O p q n 0 (by omega)
    rw [ofNat_0] at h1 h2
    have h43 := k43g (s := ⟨na (na N 1) 1, .cells (cellsOf cI (zerosL n)) :: .cells (cB n (bor 0 (openN a))) :: O, p, q⟩) (x := sl cI (l6 a n)) (y := .hsl (na N 1) 0 n (some n)) (rdI_sl _ (l6 a n)) (rdI_hsl _ _ n _ (zerosL n) (by simp [zerosL]) (get_2_1 ..)) (by rw [l6_len]; omega)
    rw [zeros_same] at h43
    have hll : lenOf (l6 a n) = n := l6_len a n
    generalize cB n (bor 0 (openN a)) = C at hmz h1 h2 h43
    generalize l6 a n = A at h52 h1 h2 h43 hll
    generalize settleP ⟨Int.ofNat n, es, ss⟩ L = P at h53 hpe h1 h2
    generalize gs.map bitsOf = G at h30 h36 h1
    cases hz : decide (∀ j, j < n → a j = 0) with
    | true =>
      rw [hz] at hpe h43
      (try simp only [go_sem, ↓reduceIte, Nat.reduceAdd, Nat.reduceEqDiff, Nat.reduceLT, Nat.reduceLeDiff, Nat.reduceBEq, Int.reduceEq, Int.reduceLT, Int.reduceLE]); (repeat ((first | simp only [h46] | simp only [h51] | rw [hwt] | rw [hrem] | simp only [h50] | simp only [h24] | simp only [h31] | simp only [h52] | simp only [h30] | simp only [h53] | simp only [h36] | simp only [hll] | rw [hmk] | rw [h1] | rw [h2] | rw [hmz] | rw [h43] | rw [hpe] | rw [eq_y rfl] | simp only [h22] | (rw [lt_yes]; rotate_left; (first | omega | (simp [lenOf, app]; omega) | (simp only [lenOf]; omega))) | (rw [lt_no]; rotate_left; (first | omega | (simp [lenOf, app]; omega) | (simp only [lenOf]; omega))) | (rw [idxA_at]; rotate_left; (first | omega | (simp [lenOf, app]; omega) | (simp only [lenOf]; omega))) | (rw [wr_up]; rotate_left; (first | omega | (simp [lenOf, app]; omega) | (simp only [lenOf]; omega))) | ((first | rw [drop_cI] | rw [drop_cE] | rw [drop_cS] | rw [drop_cP] | rw [drop_cR]); rotate_left; assumption)); try simp only [go_sem, ↓reduceIte, Nat.reduceAdd, Nat.reduceEqDiff, Nat.reduceLT, Nat.reduceLeDiff, Nat.reduceBEq, Int.reduceEq, Int.reduceLT, Int.reduceLE]))
    | false =>
      rw [hz] at hpe h43
      (try simp only [go_sem, ↓reduceIte, Nat.reduceAdd, Nat.reduceEqDiff, Nat.reduceLT, Nat.reduceLeDiff, Nat.reduceBEq, Int.reduceEq, Int.reduceLT, Int.reduceLE]); (repeat ((first | simp only [h46] | simp only [h51] | rw [hwt] | rw [hrem] | simp only [h50] | simp only [h24] | simp only [h31] | simp only [h52] | simp only [h30] | simp only [h53] | simp only [h36] | simp only [hll] | rw [hmk] | rw [h1] | rw [h2] | rw [hmz] | rw [h43] | rw [hpe] | rw [eq_y rfl] | simp only [h22] | (rw [lt_yes]; rotate_left; (first | omega | (simp [lenOf, app]; omega) | (simp only [lenOf]; omega))) | (rw [lt_no]; rotate_left; (first | omega | (simp [lenOf, app]; omega) | (simp only [lenOf]; omega))) | (rw [idxA_at]; rotate_left; (first | omega | (simp [lenOf, app]; omega) | (simp only [lenOf]; omega))) | (rw [wr_up]; rotate_left; (first | omega | (simp [lenOf, app]; omega) | (simp only [lenOf]; omega))) | ((first | rw [drop_cI] | rw [drop_cE] | rw [drop_cS] | rw [drop_cP] | rw [drop_cR]); rotate_left; assumption)); try simp only [go_sem, ↓reduceIte, Nat.reduceAdd, Nat.reduceEqDiff, Nat.reduceLT, Nat.reduceLeDiff, Nat.reduceBEq, Int.reduceEq, Int.reduceLT, Int.reduceLE]))
theorem Try_own : ownKnob Try.prog.godebug = none := by kernel_rfl
theorem apart_lifted (os : Os) (started : os.Started) (H : Type) (enc : TypeId × Value → H) :
    ReturnsInHanded {} Try.checked os 8 .any (Ytlhfeiacigmliaa.Rows.soapApartSpec.pre6 enc Try.prog Try.f8 Ytlhfeiacigmliaa.Rows.soapApartRow.domain false) (Ytlhfeiacigmliaa.Rows.soapApartSpec.post enc Try.prog Try.f8 false true false false) := by
  refine returnsInHanded_of_change (C := Try.checked) Try_own started (by kernel_rfl) Try.func8
    (ChangeSpec.witness6 (enc := enc) (C := Try.checked) false ⟨#[], #[.agg #[.int .i64 0, .slice none 0 0, .slice none 0 0], .int .u16 0], []⟩ 8 (by kernel_rfl) (by kernel_rfl) (by kernel_rfl) (by kernel_rfl)) ?_
  intro W base args ds gs before hval0 hW hcnd _
  have hval : ∀ (j : Nat) t v, Try.f8.params[j]? = some t → args[j]? = some v → Value.okWide Try.prog W .any base t v := hval0
  have hW' := hW
  obtain ⟨p, q, hA0, hV, rfl, hfz, hnd⟩ := hW
  have hA : DataW.TrodAll enc Try.prog W 0 (fun _ => true) true Try.f8.params.toList args.toList ds p := hA0
  rw [Try.params8] at hA hval
  obtain ⟨v0, v1, d0, d1, p0, p1, rfl, rfl, hp, h0, h1⟩ := trodAll_two hA
  obtain ⟨rfl, rfl⟩ := trodVars_none hV
  obtain ⟨x0, r0⟩ := rel_slate (hval 0 25 v0 rfl rfl) h0
  obtain ⟨x1, l1, r1⟩ := rel_u16 (hval 1 69 v1 rfl rfl) h1
  refine (sound_lim tbl_ok (k8 x0 x1 l1 St.empty) (sim0 Try.prog W) (args' := #[v0, v1]) ⟨v0, [v1], rfl, r0, ⟨v1, [], rfl, r1, rfl⟩⟩).mono fun e W' he => ?_
  obtain ⟨v', ρ', he, hv, _, hF⟩ := he
  subst he
  have hv : v' = .bool true := hv
  subst hv
  exact ⟨_, rfl, shut_true hW' rfl rfl (by rw [Try.params8]; intro t ht; simp at ht; rcases ht with rfl | rfl <;> exact ⟨by kernel_rfl, of_decide_eq_true (by kernel_rfl)⟩) rfl rfl rfl hF⟩
theorem apart_holds : Ytlhfeiacigmliaa.Rows.SoapApartSaid :=
  OpenClaim.holds_of_wide 8 Try.f8 rfl rfl rfl rfl rfl rfl rfl ⟨rfl, rfl, rfl, rfl, rfl⟩ rfl rfl rfl rfl rfl (by kernel_rfl) Try.func8 (by kernel_rfl)
    (of_decide_eq_true (by kernel_rfl)) (by unfold Func.isWrapper; first | (rw [if_pos (by decide +kernel)]; kernel_rfl) | (rw [if_neg (by decide +kernel)]; exact ⟨rfl, rfl⟩))
    (fun os started H enc _ => apart_lifted os started H enc)
#print axioms apart_holds
end Go.Proofs.Ytlhfeiacigmliaa
