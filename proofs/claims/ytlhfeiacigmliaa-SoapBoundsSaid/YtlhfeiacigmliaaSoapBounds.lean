/- The law SoapBounds answers true for every slate: the bounds of what all women are owed, and who owes, are as the document says, or the error is. -/
import Derived.Test.YtlhfeiacigmliaaPartJ
set_option linter.all false
namespace Go.Proofs.Ytlhfeiacigmliaa
open Go Go.ChangeShapes Go.RowKit
set_option maxRecDepth 100000

theorem negs_bound (g : List Int → Int) : ∀ (l : List (List Int)) (n : Nat), n ≤ negs g l n ∧ negs g l n ≤ n + l.length
  | [], n => by simp [negs]
  | L :: l, n => by
    rw [negs]
    have := negs_bound g l (if g L < 0 then n + 1 else n)
    simp only [List.length_cons]
    split at this <;> rename_i h <;> simp only [h, if_true, if_false] <;> omega
theorem negs_all (g : List Int → Int) : ∀ (l : List (List Int)) (n : Nat), negs g l n = n + l.length ↔ ∀ L ∈ l, g L < 0
  | [], n => by simp [negs]
  | L :: l, n => by
    rw [negs]
    by_cases h : g L < 0
    · rw [if_pos h]
      have := negs_all g l (n + 1)
      simp only [List.length_cons, List.mem_cons, forall_eq_or_imp, h, true_and]
      rw [← this]; omega
    · rw [if_neg h]
      have := negs_bound g l n
      simp only [List.length_cons, List.mem_cons, forall_eq_or_imp, h, false_and, iff_false]
      omega
theorem negs_none (g : List Int → Int) : ∀ (l : List (List Int)) (n : Nat), negs g l n = n ↔ ∀ L ∈ l, 0 ≤ g L
  | [], n => by simp [negs]
  | L :: l, n => by
    rw [negs]
    by_cases h : g L < 0
    · rw [if_pos h]
      have := negs_bound g l (n + 1)
      simp only [List.mem_cons, forall_eq_or_imp]
      constructor
      · omega
      · intro hh; omega
    · rw [if_neg h]
      simp only [List.mem_cons, forall_eq_or_imp, show 0 ≤ g L by omega, true_and]
      exact negs_none g l n
theorem owes_same (g : List Int → Int) (l : List (List Int)) (h0 : l ≠ []) (lo hi : Int) (h1 : ∀ L ∈ l, lo ≤ g L ∧ g L ≤ hi) (h2 : ∃ L ∈ l, lo = g L) (h3 : ∃ L ∈ l, hi = g L) :
    owesF ⟨lo, hi⟩ = (if negs g l 0 = lenOf l then 1 else if negs g l 0 = 0 then 2 else 3) := by
  have ha : negs g l 0 = lenOf l ↔ hi < 0 := by
    have := negs_all g l 0
    rw [Nat.zero_add] at this
    rw [show lenOf l = l.length from rfl, this]
    constructor
    · intro h; obtain ⟨L, hL, rfl⟩ := h3; exact h L hL
    · intro h L hL; have := h1 L hL; omega
  have hb : negs g l 0 = 0 ↔ 0 ≤ lo := by
    rw [negs_none g l 0]
    constructor
    · intro h; obtain ⟨L, hL, rfl⟩ := h2; exact h L hL
    · intro h L hL; have := h1 L hL; omega
  unfold owesF
  simp only [ha, hb]
theorem l3 (w : Int) (es : List Ent) (ss : List Say) (n : Nat) (hw : w = Int.ofNat n) (hn : n < 1000000) (T : List (List Int)) (hT : T.length < 1000000) (hE : es.length < 1000000) (hL : ∀ L ∈ T, L.length = es.length) (R : List Rng) (V : List Int) (hRl : R.length = n) (hVl : V.length = n)
    (hR : ∀ i, i < n → R[i]? = some ⟨(boundsRef ⟨w, es, ss⟩ T (Int.ofNat i)).1, (boundsRef ⟨w, es, ss⟩ T (Int.ofNat i)).2⟩) (hV : ∀ i, i < n → V[i]? = some (owesRef ⟨w, es, ss⟩ T (Int.ofNat i))) (s : St) : ∀ (k i : Nat), i + k = n →
    lim tbl (.loop a3_l0 100 ⟨[1, 3, 5, 7, 9], [], [2]⟩ [.vref [i64 w, sl cE es, sl cS ss], sl cR R, sl cI V, sl cL T, i64 (Int.ofNat i)]) s = some (.exit 0, [], s) := by
  subst hw
  intro k
  induction k with
  | zero =>
    intro i hi
    rw [lim_loop]
    obtain ⟨N, O, p, q⟩ := s
    (try simp only [go_sem, ↓reduceIte, Nat.reduceAdd, Nat.reduceEqDiff, Nat.reduceLT, Nat.reduceLeDiff, Nat.reduceBEq, Int.reduceEq, Int.reduceLT, Int.reduceLE]); (repeat ((first | (rw [lt_yes]; rotate_left; (first | omega | (simp [lenOf, app]; omega) | (simp only [lenOf]; omega))) | (rw [lt_no]; rotate_left; (first | omega | (simp [lenOf, app]; omega) | (simp only [lenOf]; omega))) | (rw [idxA_at]; rotate_left; (first | omega | (simp [lenOf, app]; omega) | (simp only [lenOf]; omega))) | (rw [wr_up]; rotate_left; (first | omega | (simp [lenOf, app]; omega) | (simp only [lenOf]; omega))) | ((first | rw [drop_cI] | rw [drop_cE] | rw [drop_cS] | rw [drop_cP] | rw [drop_cR]); rotate_left; assumption)); try simp only [go_sem, ↓reduceIte, Nat.reduceAdd, Nat.reduceEqDiff, Nat.reduceLT, Nat.reduceLeDiff, Nat.reduceBEq, Int.reduceEq, Int.reduceLT, Int.reduceLE]))
  | succ k ih =>
    intro i hi
    have ih' := ih (i + 1) (by omega)
    have h28 := fun s => k28 ⟨Int.ofNat n, es, ss⟩ T (Int.ofNat i) hT hE hL s
    have h29 := fun s => k29 ⟨Int.ofNat n, es, ss⟩ T (Int.ofNat i) hT hE hL s
    have hr := hR i (by omega)
    have hv := hV i (by omega)
    have hRl' : lenOf R = n := hRl
    have hVl' : lenOf V = n := hVl
    rw [lim_loop]
    generalize boundsRef ⟨Int.ofNat n, es, ss⟩ T (Int.ofNat i) = b at h28 hr
    generalize owesRef ⟨Int.ofNat n, es, ss⟩ T (Int.ofNat i) = o at h29 hv
    obtain ⟨N, O, p, q⟩ := s
    (try simp only [go_sem, ↓reduceIte, Nat.reduceAdd, Nat.reduceEqDiff, Nat.reduceLT, Nat.reduceLeDiff, Nat.reduceBEq, Int.reduceEq, Int.reduceLT, Int.reduceLE]); (repeat ((first | simp only [h28] | simp only [h29] | simp only [ih'] | rw [eq_y rfl] | simp only [hRl'] | simp only [hVl'] | (rw [lt_yes]; rotate_left; (first | omega | (simp [lenOf, app]; omega) | (simp only [lenOf]; omega))) | (rw [lt_no]; rotate_left; (first | omega | (simp [lenOf, app]; omega) | (simp only [lenOf]; omega))) | (rw [idxA_at]; rotate_left; (first | omega | (simp [lenOf, app]; omega) | (simp only [lenOf]; omega))) | (rw [wr_up]; rotate_left; (first | omega | (simp [lenOf, app]; omega) | (simp only [lenOf]; omega))) | ((first | rw [drop_cI] | rw [drop_cE] | rw [drop_cS] | rw [drop_cP] | rw [drop_cR]); rotate_left; assumption)); try simp only [go_sem, ↓reduceIte, Nat.reduceAdd, Nat.reduceEqDiff, Nat.reduceLT, Nat.reduceLeDiff, Nat.reduceBEq, Int.reduceEq, Int.reduceLT, Int.reduceLE]))
theorem truths_len (S : Slate) (m : Nat) : (truths S m).length ≤ m := upto_len (fun n => by unfold truthF; split <;> simp) 0 m
theorem asked_val {S : Slate} (hG : Good S) {L : List Int} {a : Nat → Int} (h : eq6 a (owV S.es L) = true) {i : Nat} (hi : i < 6) : a i = owedUp 0 (Int.ofNat i) S.es L := eq6_at h hi
theorem truth_small {S : Slate} (hG : Good S) {L : List Int} (hL : L ∈ truths S (prodN S.es)) (i : Nat) : -1000000 ≤ owedUp 0 (Int.ofNat i) S.es L ∧ owedUp 0 (Int.ofNat i) S.es L ≤ 1000000 := by
  obtain ⟨g1, g2⟩ := (mem_truths hG L).1 hL
  have h6 := hG.e6
  have := Small.ow (es := S.es) (Int.ofNat i) (L := L) 0 0 hG.oe g1 (by omega) (by omega) (by omega)
  omega
theorem bounds_at {S : Slate} (hG : Good S) (h0 : asked S ≠ []) {i : Nat} (hi : i < 6) :
    boundsF (asked S) i = ⟨(boundsRef S (truths S (prodN S.es)) (Int.ofNat i)).1, (boundsRef S (truths S (prodN S.es)) (Int.ofNat i)).2⟩ ∧
    owesF (boundsF (asked S) i) = owesRef S (truths S (prodN S.es)) (Int.ofNat i) := by
  have hb := bounds_same hG h0 (fun a => a i) (owedUp 0 (Int.ofNat i) S.es) (fun a L h => asked_val hG h hi) (fun L hL => truth_small hG hL i)
  refine ⟨by unfold boundsF boundsRef; rw [hb], ?_⟩
  have ht : truths S (prodN S.es) ≠ [] := by
    intro h
    cases ha : asked S with
    | nil => exact h0 ha
    | cons a l =>
      obtain ⟨L, hL, _⟩ := asked_truth hG (a := a) (by rw [ha]; simp)
      rw [h] at hL; simp at hL
  obtain ⟨p1, ⟨a1, ha1, e1⟩, ⟨a2, ha2, e2⟩⟩ := pBounds_spec (fun a => a i) (asked S) h0
  unfold owesRef boundsF
  refine owes_same (owedUp 0 (Int.ofNat i) S.es) _ ht _ _ (fun L hL => ?_) ?_ ?_
  · obtain ⟨a, ha, he⟩ := truth_asked hG hL
    have := p1 a ha
    rw [← asked_val hG he hi]; exact this
  · obtain ⟨L, hL, q⟩ := asked_truth hG ha1
    exact ⟨L, hL, by rw [e1, ← asked_val hG (L := L) (a := a1) (by rw [q]; exact eq6_refl _) hi]⟩
  · obtain ⟨L, hL, q⟩ := asked_truth hG ha2
    exact ⟨L, hL, by rw [e2, ← asked_val hG (L := L) (a := a2) (by rw [q]; exact eq6_refl _) hi]⟩
theorem k3 (S : Slate) (s : St) : lim tbl (.call 3 [vSl S]) s = some (.ret, [.bool true], s) := by
  have h21 := fun s => k21 S s
  have h22 := fun s => k22 s
  rw [lim_call tbl_3]
  cases hT : thin S with
  | false =>
    rw [hT] at h21
    obtain ⟨w, es, ss⟩ := S
    obtain ⟨N, O, p, q⟩ := s
    (try simp only [go_sem, ↓reduceIte, Nat.reduceAdd, Nat.reduceEqDiff, Nat.reduceLT, Nat.reduceLeDiff, Nat.reduceBEq, Int.reduceEq, Int.reduceLT, Int.reduceLE]); (repeat ((first | simp only [h21] | simp only [h22] | (rw [lt_yes]; rotate_left; (first | omega | (simp [lenOf, app]; omega) | (simp only [lenOf]; omega))) | (rw [lt_no]; rotate_left; (first | omega | (simp [lenOf, app]; omega) | (simp only [lenOf]; omega))) | (rw [idxA_at]; rotate_left; (first | omega | (simp [lenOf, app]; omega) | (simp only [lenOf]; omega))) | (rw [wr_up]; rotate_left; (first | omega | (simp [lenOf, app]; omega) | (simp only [lenOf]; omega))) | ((first | rw [drop_cI] | rw [drop_cE] | rw [drop_cS] | rw [drop_cP] | rw [drop_cR]); rotate_left; assumption)); try simp only [go_sem, ↓reduceIte, Nat.reduceAdd, Nat.reduceEqDiff, Nat.reduceLT, Nat.reduceLeDiff, Nat.reduceBEq, Int.reduceEq, Int.reduceLT, Int.reduceLE]))
  | true =>
    rw [hT] at h21
    obtain ⟨hl1, hl2⟩ := thin_len hT
    have h24 := fun s => k24 S (by omega) (by omega) s
    have h23 := fun s => k23 S s
    have h25 := fun s => k25 S s
    have h26 := fun s => k26 S s
    rw [← err_eq] at h26
    by_cases he : askedErr S = 0
    · have hc : checkSlate S = 0 := by
        unfold askedErr at he
        by_cases hc : checkSlate S = 0
        · exact hc
        · rw [if_pos hc] at he; exact absurd he hc
      have hz : asked S ≠ [] := by
        intro h
        simp [askedErr, hc, h] at he
      have hG := good_of_check hc
      obtain ⟨hm, hM⟩ := many_of_check hc
      have hw0 := hG.w0
      have hw6 := hG.w6
      have hTs : sureL S = truths S (prodN S.es) := by simp [sureL, hc]
      have hbl : boundsL S = boundsP (asked S) 0 S.women.toNat := by simp [boundsL, he]
      rw [he] at h23 h25 h26
      rw [hTs] at h26
      have hTl : (truths S (prodN S.es)).length < 1000000 := by have := truths_len S (prodN S.es); omega
      have hTL : ∀ L ∈ truths S (prodN S.es), L.length = S.es.length := fun L hL => areOz_len ((mem_truths hG L).1 hL).1
      obtain ⟨n, hn⟩ : ∃ n : Nat, S.women = Int.ofNat n := ⟨S.women.toNat, by simp; omega⟩
      have hn6 : n ≤ 6 := by rw [hn] at hw6; change (n : Int) ≤ 6 at hw6; omega
      have hRl : (boundsL S).length = n := by rw [hbl, hn]; simp [boundsP]
      have hVl : ((boundsL S).map owesF).length = n := by rw [List.length_map, hRl]
      have hR : ∀ i, i < n → (boundsL S)[i]? = some (boundsF (asked S) i) := by
        intro i hi
        rw [hbl, hn]
        simp [boundsP, show i < n from hi]
      have l0 := fun s => l3 S.women S.es S.ss n hn (by omega) (truths S (prodN S.es)) hTl (by omega) hTL (boundsL S) ((boundsL S).map owesF) hRl hVl
        (fun i hi => by rw [hR i hi, (bounds_at hG hz (show i < 6 by omega)).1]) (fun i hi => by rw [List.getElem?_map, hR i hi]; simp only [Option.map_some, (bounds_at hG hz (show i < 6 by omega)).2]) s n 0 (by omega)
      rw [ofNat_0] at l0
      have hRl' : lenOf (boundsL S) = n := hRl
      have hVl' : lenOf ((boundsL S).map owesF) = n := hVl
      generalize (boundsL S).map owesF = V at h25 l0 hVl'
      generalize boundsL S = R at h23 l0 hRl'
      generalize truths S (prodN S.es) = T at h26 l0
      obtain ⟨w, es, ss⟩ := S
      simp only at hn l0
      subst hn
      obtain ⟨N, O, p, q⟩ := s
      (try simp only [go_sem, ↓reduceIte, Nat.reduceAdd, Nat.reduceEqDiff, Nat.reduceLT, Nat.reduceLeDiff, Nat.reduceBEq, Int.reduceEq, Int.reduceLT, Int.reduceLE]); (repeat ((first | simp only [h21] | simp only [h24] | simp only [h23] | simp only [h25] | simp only [h26] | simp only [hRl'] | simp only [hVl'] | rw [eq_y rfl] | simp only [l0] | simp only [h22] | (rw [lt_yes]; rotate_left; (first | omega | (simp [lenOf, app]; omega) | (simp only [lenOf]; omega))) | (rw [lt_no]; rotate_left; (first | omega | (simp [lenOf, app]; omega) | (simp only [lenOf]; omega))) | (rw [idxA_at]; rotate_left; (first | omega | (simp [lenOf, app]; omega) | (simp only [lenOf]; omega))) | (rw [wr_up]; rotate_left; (first | omega | (simp [lenOf, app]; omega) | (simp only [lenOf]; omega))) | ((first | rw [drop_cI] | rw [drop_cE] | rw [drop_cS] | rw [drop_cP] | rw [drop_cR]); rotate_left; assumption)); try simp only [go_sem, ↓reduceIte, Nat.reduceAdd, Nat.reduceEqDiff, Nat.reduceLT, Nat.reduceLeDiff, Nat.reduceBEq, Int.reduceEq, Int.reduceLT, Int.reduceLE]))
    · have hbl : boundsL S = [] := by simp [boundsL, he]
      rw [hbl] at h23 h25
      simp only [List.map_nil] at h25
      generalize askedErr S = e at h23 h25 h26 he
      generalize sureL S = T at h26
      obtain ⟨w, es, ss⟩ := S
      obtain ⟨N, O, p, q⟩ := s
      (try simp only [go_sem, ↓reduceIte, Nat.reduceAdd, Nat.reduceEqDiff, Nat.reduceLT, Nat.reduceLeDiff, Nat.reduceBEq, Int.reduceEq, Int.reduceLT, Int.reduceLE]); (repeat ((first | simp only [h21] | simp only [h24] | simp only [h23] | simp only [h25] | simp only [h26] | rw [eq_n he] | rw [eq_y rfl] | simp only [h22] | (rw [lt_yes]; rotate_left; (first | omega | (simp [lenOf, app]; omega) | (simp only [lenOf]; omega))) | (rw [lt_no]; rotate_left; (first | omega | (simp [lenOf, app]; omega) | (simp only [lenOf]; omega))) | (rw [idxA_at]; rotate_left; (first | omega | (simp [lenOf, app]; omega) | (simp only [lenOf]; omega))) | (rw [wr_up]; rotate_left; (first | omega | (simp [lenOf, app]; omega) | (simp only [lenOf]; omega))) | ((first | rw [drop_cI] | rw [drop_cE] | rw [drop_cS] | rw [drop_cP] | rw [drop_cR]); rotate_left; assumption)); try simp only [go_sem, ↓reduceIte, Nat.reduceAdd, Nat.reduceEqDiff, Nat.reduceLT, Nat.reduceLeDiff, Nat.reduceBEq, Int.reduceEq, Int.reduceLT, Int.reduceLE]))
theorem Try_own : ownKnob Try.prog.godebug = none := by kernel_rfl
theorem bounds_lifted (os : Os) (started : os.Started) (H : Type) (enc : TypeId × Value → H) :
    ReturnsInHanded {} Try.checked os 3 .any (Ytlhfeiacigmliaa.Rows.soapBoundsSpec.pre6 enc Try.prog Try.f3 Ytlhfeiacigmliaa.Rows.soapBoundsRow.domain false) (Ytlhfeiacigmliaa.Rows.soapBoundsSpec.post enc Try.prog Try.f3 false true false false) := by
  refine returnsInHanded_of_change (C := Try.checked) Try_own started (by kernel_rfl) Try.func3
    (ChangeSpec.witness6 (enc := enc) (C := Try.checked) false ⟨#[], #[.agg #[.int .i64 0, .slice none 0 0, .slice none 0 0]], []⟩ 8 (by kernel_rfl) (by kernel_rfl) (by kernel_rfl) (by kernel_rfl)) ?_
  intro W base args ds gs before hval0 hW hcnd _
  have hval : ∀ (j : Nat) t v, Try.f3.params[j]? = some t → args[j]? = some v → Value.okWide Try.prog W .any base t v := hval0
  have hW' := hW
  obtain ⟨p, q, hA0, hV, rfl, hfz, hnd⟩ := hW
  have hA : DataW.TrodAll enc Try.prog W 0 (fun _ => true) true Try.f3.params.toList args.toList ds p := hA0
  rw [Try.params3] at hA hval
  obtain ⟨v0, d0, rfl, rfl, h0⟩ := trodAll_one hA
  obtain ⟨rfl, rfl⟩ := trodVars_none hV
  obtain ⟨S, hS⟩ := rel_slate (hval 0 25 v0 rfl rfl) h0
  refine (sound_lim tbl_ok (k3 S St.empty) (sim0 Try.prog W) (args' := #[v0]) ⟨v0, [], rfl, hS, rfl⟩).mono fun e W' he => ?_
  obtain ⟨v', ρ', he, hv, _, hF⟩ := he
  subst he
  have hv : v' = .bool true := hv
  subst hv
  exact ⟨_, rfl, shut_true hW' rfl rfl (by rw [Try.params3]; intro t ht; simp at ht; subst ht; exact ⟨by kernel_rfl, of_decide_eq_true (by kernel_rfl)⟩) rfl rfl rfl hF⟩
theorem bounds_holds : Ytlhfeiacigmliaa.Rows.SoapBoundsSaid :=
  OpenClaim.holds_of_wide 3 Try.f3 rfl rfl rfl rfl rfl rfl rfl ⟨rfl, rfl, rfl, rfl, rfl⟩ rfl rfl rfl rfl rfl (by kernel_rfl) Try.func3 (by kernel_rfl)
    (of_decide_eq_true (by kernel_rfl)) (by unfold Func.isWrapper; first | (rw [if_pos (by decide +kernel)]; kernel_rfl) | (rw [if_neg (by decide +kernel)]; exact ⟨rfl, rfl⟩))
    (fun os started H enc _ => bounds_lifted os started H enc)
#print axioms bounds_holds
end Go.Proofs.Ytlhfeiacigmliaa
