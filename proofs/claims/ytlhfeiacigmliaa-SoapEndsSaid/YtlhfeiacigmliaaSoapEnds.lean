/- The law SoapEnds answers true for every slate and woman: both ends of what a woman is owed, and of the number of the fewest payments, are reached in some truth. -/
import Derived.Test.YtlhfeiacigmliaaPartJ
set_option linter.all false
namespace Go.Proofs.Ytlhfeiacigmliaa
open Go Go.ChangeShapes Go.RowKit
set_option maxRecDepth 100000

def e4 (e0 e1 e2 e3 : Bool) : Nat → Bool
  | 0 => e0
  | 1 => e1
  | 2 => e2
  | _ => e3
theorem nthO_e4 {j : Nat} (e0 e1 e2 e3 : Bool) (h : j < 4) : nthO (some (.cells [.bool e0, .bool e1, .bool e2, .bool e3])) (na 0 (Nat.mul j 1)) = some (.bool (e4 e0 e1 e2 e3 j)) := by
  rw [show na 0 (Nat.mul j 1) = j by simp [na]]
  match j, h with
  | 0, _ | 1, _ | 2, _ | 3, _ => rfl
def endUp (e : Nat → Bool) (n : Nat) : Nat → Nat → Nat
  | _, 0 => n
  | i, k + 1 => endUp e (if e i then bor n (pw i) else n) (i + 1) k
theorem endUp_lt (e : Nat → Bool) : ∀ (k i n : Nat), i + k = 4 → n < 16 → endUp e n i k < 16
  | 0, _, _, _, h => h
  | k + 1, i, n, hi, h => by
    rw [endUp]
    apply endUp_lt e k (i + 1) _ (by omega)
    split
    · exact Nat.or_lt_two_pow (n := 4) h (Nat.pow_lt_pow_right (a := 2) (m := i) (n := 4) (by omega) (by omega))
    · exact h
theorem endUp_t (e : Nat → Bool) (j : Nat) : ∀ (k i n : Nat), (endUp e n i k).testBit j = (n.testBit j || decide (i ≤ j ∧ j < i + k ∧ e j = true))
  | 0, i, n => by
    have : ¬ (i ≤ j ∧ j < i + 0 ∧ e j = true) := by omega
    simp only [endUp, this, decide_false, Bool.or_false]
  | k + 1, i, n => by
    rw [endUp, endUp_t e j k (i + 1)]
    by_cases hz : e i = true
    · rw [if_pos hz, bor_t, pw_t, Bool.or_assoc]
      congr 1
      by_cases hij : i = j
      · subst hij; simp [hz]
      · simp only [hij, decide_false, Bool.false_or]
        congr 1
        apply propext
        constructor
        · rintro ⟨h1, h2, h3⟩; exact ⟨by omega, by omega, h3⟩
        · rintro ⟨h1, h2, h3⟩; exact ⟨by omega, by omega, h3⟩
    · rw [if_neg hz]
      congr 2
      apply propext
      constructor
      · rintro ⟨h1, h2, h3⟩; exact ⟨by omega, by omega, h3⟩
      · rintro ⟨h1, h2, h3⟩
        have : i ≠ j := fun h => hz (by rw [h]; exact h3)
        exact ⟨by omega, by omega, h3⟩
theorem l7_0 (t1 t2 t3 t4 t5 t6 : AVal) (b : Nat) (e0 e1 e2 e3 : Bool) (s : St) (hb : s.get b = some (.cells [.bool e0, .bool e1, .bool e2, .bool e3])) : ∀ (k i n : Nat), i + k = 4 → n < 16 →
    lim tbl (.loop a7_l0 130 ⟨[2, 5, 6, 8, 10, 11, 12, 15, 16], [2, 5, 6, 8, 10, 11, 12], []⟩ [t1, t2, t3, t4, t5, i64 (Int.ofNat n), t6, .ptr b 0, i64 (Int.ofNat i)]) s
      = some (.exit 2, [t1, t2, t3, t4, t5, i64 (Int.ofNat (endUp (e4 e0 e1 e2 e3) n i k)), t6], s) := by
  intro k
  induction k with
  | zero =>
    intro i n hi hn
    have h4 : ¬ Int.ofNat i < 4 := by simp; omega
    rw [endUp, lim_loop]
    obtain ⟨N, O, p, q⟩ := s
    (try simp only [go_sem, ↓reduceIte, Nat.reduceAdd, Nat.reduceEqDiff, Nat.reduceLT, Nat.reduceLeDiff, Nat.reduceBEq, Int.reduceEq, Int.reduceLT, Int.reduceLE]); (repeat ((first | rw [lt_n h4] | (rw [lt_yes]; rotate_left; (first | omega | (simp [lenOf, app]; omega) | (simp only [lenOf]; omega))) | (rw [lt_no]; rotate_left; (first | omega | (simp [lenOf, app]; omega) | (simp only [lenOf]; omega))) | (rw [idxA_at]; rotate_left; (first | omega | (simp [lenOf, app]; omega) | (simp only [lenOf]; omega))) | (rw [wr_up]; rotate_left; (first | omega | (simp [lenOf, app]; omega) | (simp only [lenOf]; omega))) | ((first | rw [drop_cI] | rw [drop_cE] | rw [drop_cS] | rw [drop_cP] | rw [drop_cR]); rotate_left; assumption)); try simp only [go_sem, ↓reduceIte, Nat.reduceAdd, Nat.reduceEqDiff, Nat.reduceLT, Nat.reduceLeDiff, Nat.reduceBEq, Int.reduceEq, Int.reduceLT, Int.reduceLE]))
  | succ k ih =>
    intro i n hi hn
    have h4 : Int.ofNat i < 4 := by simp; omega
    have hix : idxA (i64 (Int.ofNat i)) 4 = some i := idxA_at (by omega)
    have hn' := nthO_e4 e0 e1 e2 e3 (j := i) (by omega)
    have hpw : pw i < 9223372036854775808 := pw_lt (by omega)
    have hsh : shlI 1 (Int.ofNat i) = some (i64 (Int.ofNat (pw i))) := shl1_at (by omega)
    have hor := bits_or (a := n) (b := pw i) (by omega) hpw
    rw [endUp]
    cases hz : e4 e0 e1 e2 e3 i with
    | true =>
      have h' := ih (i + 1) (bor n (pw i)) (by omega) (Nat.or_lt_two_pow (n := 4) hn (Nat.pow_lt_pow_right (a := 2) (m := i) (n := 4) (by omega) (by omega)))
      rw [if_pos rfl, lim_loop]
      rw [hz] at hn'
      generalize hR : some (_, _, _) = R at h' ⊢
      obtain ⟨N, O, p, q⟩ := s
      (try simp only [go_sem, ↓reduceIte, Nat.reduceAdd, Nat.reduceEqDiff, Nat.reduceLT, Nat.reduceLeDiff, Nat.reduceBEq, Int.reduceEq, Int.reduceLT, Int.reduceLE]); (repeat ((first | rw [lt_y h4] | rw [hix] | rw [hb] | rw [hn'] | (rw [wr_u]; rotate_left; (omega)) | rw [hsh] | rw [hor] | (rw [lt_yes]; rotate_left; (first | omega | (simp [lenOf, app]; omega) | (simp only [lenOf]; omega))) | (rw [lt_no]; rotate_left; (first | omega | (simp [lenOf, app]; omega) | (simp only [lenOf]; omega))) | (rw [idxA_at]; rotate_left; (first | omega | (simp [lenOf, app]; omega) | (simp only [lenOf]; omega))) | (rw [wr_up]; rotate_left; (first | omega | (simp [lenOf, app]; omega) | (simp only [lenOf]; omega))) | ((first | rw [drop_cI] | rw [drop_cE] | rw [drop_cS] | rw [drop_cP] | rw [drop_cR]); rotate_left; assumption)); try simp only [go_sem, ↓reduceIte, Nat.reduceAdd, Nat.reduceEqDiff, Nat.reduceLT, Nat.reduceLeDiff, Nat.reduceBEq, Int.reduceEq, Int.reduceLT, Int.reduceLE]))
      exact h'
    | false =>
      have h' := ih (i + 1) n (by omega) hn
      simp only [Bool.false_eq_true, if_false]
      rw [lim_loop]
      rw [hz] at hn'
      generalize hR : some (_, _, _) = R at h' ⊢
      obtain ⟨N, O, p, q⟩ := s
      (try simp only [go_sem, ↓reduceIte, Nat.reduceAdd, Nat.reduceEqDiff, Nat.reduceLT, Nat.reduceLeDiff, Nat.reduceBEq, Int.reduceEq, Int.reduceLT, Int.reduceLE]); (repeat ((first | rw [lt_y h4] | rw [hix] | rw [hb] | rw [hn'] | (rw [lt_yes]; rotate_left; (first | omega | (simp [lenOf, app]; omega) | (simp only [lenOf]; omega))) | (rw [lt_no]; rotate_left; (first | omega | (simp [lenOf, app]; omega) | (simp only [lenOf]; omega))) | (rw [idxA_at]; rotate_left; (first | omega | (simp [lenOf, app]; omega) | (simp only [lenOf]; omega))) | (rw [wr_up]; rotate_left; (first | omega | (simp [lenOf, app]; omega) | (simp only [lenOf]; omega))) | ((first | rw [drop_cI] | rw [drop_cE] | rw [drop_cS] | rw [drop_cP] | rw [drop_cR]); rotate_left; assumption)); try simp only [go_sem, ↓reduceIte, Nat.reduceAdd, Nat.reduceEqDiff, Nat.reduceLT, Nat.reduceLeDiff, Nat.reduceBEq, Int.reduceEq, Int.reduceLT, Int.reduceLE]))
      exact h'
def endE (S : Slate) (u : Nat) (lo hi rlo rhi : Int) (L : List Int) : Nat → Bool := e4 (decide (owedUp 0 (Int.ofNat u) S.es L = lo)) (decide (owedUp 0 (Int.ofNat u) S.es L = hi)) (decide (payR S L = rlo)) (decide (payR S L = rhi))
def metUp (E : List Int → Nat → Bool) : Nat → List (List Int) → Nat
  | n, [] => n
  | n, L :: l => metUp E (endUp (E L) n 0 4) l
theorem metUp_lt (E : List Int → Nat → Bool) : ∀ (l : List (List Int)) (n : Nat), n < 16 → metUp E n l < 16
  | [], _, h => h
  | L :: l, n, h => metUp_lt E l _ (endUp_lt (E L) 4 0 n (by omega) h)
theorem metUp_t (E : List Int → Nat → Bool) (j : Nat) (hj : j < 4) : ∀ (l : List (List Int)) (n : Nat), (metUp E n l).testBit j = (n.testBit j || l.any fun L => E L j)
  | [], n => by simp [metUp]
  | L :: l, n => by
    rw [metUp, metUp_t E j hj l, endUp_t, List.any_cons, Bool.or_assoc]
    congr 2
    cases h : E L j <;> simp <;> omega
theorem l7_1 (S : Slate) (u : Nat) (hw0 : 0 ≤ S.women) (hw6 : S.women ≤ 6) (T : List (List Int)) (hT : T.length < 1000000) (hE : S.es.length < 1000000) (hL : ∀ L ∈ T, L.length = S.es.length) (R : List Rng) (lo hi rlo rhi : Int) (hR : R[u]? = some ⟨lo, hi⟩) (N : Nat) (O : List AObj) (p : Nat) (q : Nat → Nat) :
    ∀ (k i n : Nat) (M : Nat) (Q : List AObj), i + k = T.length → n < 16 → Under N O (.cells [i64 rlo, i64 rhi]) M Q →
    ∃ M' Q', Under N O (.cells [i64 rlo, i64 rhi]) M' Q' ∧ lim tbl (.loop a7_l1 130 ⟨[2, 5, 6, 8, 10, 11, 12], [11], []⟩ [.vref [i64 S.women, sl cE S.es, sl cS S.ss], i64 (Int.ofNat u), sl cR R, .ptr N 0, sl cL T, i64 (Int.ofNat n), i64 (Int.ofNat i)]) ⟨M, Q, p, q⟩
      = some (.exit 0, [i64 (Int.ofNat (metUp (endE S u lo hi rlo rhi) n (T.drop i)))], ⟨M', Q', p, q⟩) := by
  intro k
  induction k with
  | zero =>
    intro i n M Q hi' hn hU
    refine ⟨M, Q, hU, ?_⟩
    rw [List.drop_eq_nil_of_le (by omega), metUp, lim_loop]
    (try simp only [go_sem, ↓reduceIte, Nat.reduceAdd, Nat.reduceEqDiff, Nat.reduceLT, Nat.reduceLeDiff, Nat.reduceBEq, Int.reduceEq, Int.reduceLT, Int.reduceLE]); (repeat ((first | (rw [lt_yes]; rotate_left; (first | omega | (simp [lenOf, app]; omega) | (simp only [lenOf]; omega))) | (rw [lt_no]; rotate_left; (first | omega | (simp [lenOf, app]; omega) | (simp only [lenOf]; omega))) | (rw [idxA_at]; rotate_left; (first | omega | (simp [lenOf, app]; omega) | (simp only [lenOf]; omega))) | (rw [wr_up]; rotate_left; (first | omega | (simp [lenOf, app]; omega) | (simp only [lenOf]; omega))) | ((first | rw [drop_cI] | rw [drop_cE] | rw [drop_cS] | rw [drop_cP] | rw [drop_cR]); rotate_left; assumption)); try simp only [go_sem, ↓reduceIte, Nat.reduceAdd, Nat.reduceEqDiff, Nat.reduceLT, Nat.reduceLeDiff, Nat.reduceBEq, Int.reduceEq, Int.reduceLT, Int.reduceLE]))
  | succ k ih =>
    intro i n M Q hi' hn hU
    have hlt : i < T.length := by omega
    obtain ⟨L, hLi, hd⟩ := getElem_drop hlt
    have hd' := drop_cL hLi
    have hLl := hL L (List.mem_of_getElem? hLi)
    have h48 := fun s => k48 S L (Int.ofNat u) hE hLl s
    have h49 := fun s => k49 S L hw0 hw6 hE hLl s
    have hul : u < lenOf R := by
      rcases Nat.lt_or_ge u R.length with h | h
      · exact h
      · rw [List.getElem?_eq_none h] at hR; cases hR
    have hRd := drop_cR hR
    have e1 := hU.get
    have e2 := hU.get1
    have he : endE S u lo hi rlo rhi L = e4 (decide (owedUp 0 (Int.ofNat u) S.es L = lo)) (decide (owedUp 0 (Int.ofNat u) S.es L = hi)) (decide (payR S L = rlo)) (decide (payR S L = rhi)) := rfl
    rw [hd, metUp, he]
    generalize owedUp 0 (Int.ofNat u) S.es L = x at h48 he ⊢
    generalize payR S L = y at h49 he ⊢
    have hin := endUp_lt (e4 (decide (x = lo)) (decide (x = hi)) (decide (y = rlo)) (decide (y = rhi))) 4 0 n (by omega) hn
    obtain ⟨M', Q', hU', h'⟩ := ih (i + 1) (endUp (e4 (decide (x = lo)) (decide (x = hi)) (decide (y = rlo)) (decide (y = rhi))) n 0 4) (na M 1) (.cells [.bool (decide (x = lo)), .bool (decide (x = hi)), .bool (decide (y = rlo)), .bool (decide (y = rhi))] :: Q) (by omega) hin (hU.push _)
    have h0 := l7_0 (.vref [i64 S.women, sl cE S.es, sl cS S.ss]) (i64 (Int.ofNat u)) (sl cR R) (.ptr N 0) (sl cL T) (i64 (Int.ofNat i)) M (decide (x = lo)) (decide (x = hi)) (decide (y = rlo)) (decide (y = rhi)) ⟨na M 1, .cells [.bool (decide (x = lo)), .bool (decide (x = hi)), .bool (decide (y = rlo)), .bool (decide (y = rhi))] :: Q, p, q⟩ (by simp only [go_sem]) 4 0 n (by omega) hn
    rw [ofNat_0] at h0
    refine ⟨M', Q', hU', ?_⟩
    rw [lim_loop]
    generalize endUp (e4 (decide (x = lo)) (decide (x = hi)) (decide (y = rlo)) (decide (y = rhi))) n 0 4 = z at h0 h' ⊢
    generalize hRR : some (_, _, _) = RR at h' ⊢
    obtain ⟨w, es, ss⟩ := S
    simp only at h48 h49 h0 h'
    (try simp only [go_sem, ↓reduceIte, Nat.reduceAdd, Nat.reduceEqDiff, Nat.reduceLT, Nat.reduceLeDiff, Nat.reduceBEq, Int.reduceEq, Int.reduceLT, Int.reduceLE]); (repeat ((first | rw [hd'] | simp only [h48] | simp only [h49] | rw [hRd] | rw [e1] | rw [e2] | rw [h0] | (rw [lt_yes]; rotate_left; (first | omega | (simp [lenOf, app]; omega) | (simp only [lenOf]; omega))) | (rw [lt_no]; rotate_left; (first | omega | (simp [lenOf, app]; omega) | (simp only [lenOf]; omega))) | (rw [idxA_at]; rotate_left; (first | omega | (simp [lenOf, app]; omega) | (simp only [lenOf]; omega))) | (rw [wr_up]; rotate_left; (first | omega | (simp [lenOf, app]; omega) | (simp only [lenOf]; omega))) | ((first | rw [drop_cI] | rw [drop_cE] | rw [drop_cS] | rw [drop_cP] | rw [drop_cR]); rotate_left; assumption)); try simp only [go_sem, ↓reduceIte, Nat.reduceAdd, Nat.reduceEqDiff, Nat.reduceLT, Nat.reduceLeDiff, Nat.reduceBEq, Int.reduceEq, Int.reduceLT, Int.reduceLE]))
    exact h'
theorem metAll {E : List Int → Nat → Bool} {l : List (List Int)} (h : ∀ j, j < 4 → ∃ L ∈ l, E L j = true) : metUp E 0 l = 15 := by
  apply Nat.eq_of_testBit_eq
  intro j
  have hlt := metUp_lt E l 0 (by omega)
  rcases Nat.lt_or_ge j 4 with hj | hj
  · rw [metUp_t E j hj]
    obtain ⟨L, h1, h2⟩ := h j hj
    have : (l.any fun L => E L j) = true := List.any_eq_true.mpr ⟨L, h1, h2⟩
    rw [this, Bool.or_true]
    match j, hj with
    | 0, _ | 1, _ | 2, _ | 3, _ => rfl
  · rw [Nat.testBit_lt_two_pow (Nat.lt_of_lt_of_le hlt (Nat.pow_le_pow_right (n := 2) (i := 4) (by omega) hj))]
    rw [Nat.testBit_lt_two_pow (Nat.lt_of_lt_of_le (by decide : 15 < 2 ^ 4) (Nat.pow_le_pow_right (n := 2) (i := 4) (by omega) hj))]
theorem k7 (S : Slate) (t : Nat) (ht : t < 256) (s : St) : lim tbl (.call 7 [vSl S, .int .u8 (Int.ofNat t)]) s = some (.ret, [.bool true], s) := by
  have h46 := fun s => k46 S s
  have h22 := fun s => k22 s
  rw [lim_call tbl_7]
  cases hT : readyS S with
  | false =>
    rw [hT] at h46
    obtain ⟨w, es, ss⟩ := S
    obtain ⟨N, O, p, q⟩ := s
    (try simp only [go_sem, ↓reduceIte, Nat.reduceAdd, Nat.reduceEqDiff, Nat.reduceLT, Nat.reduceLeDiff, Nat.reduceBEq, Int.reduceEq, Int.reduceLT, Int.reduceLE]); (repeat ((first | simp only [h46] | simp only [h22] | (rw [lt_yes]; rotate_left; (first | omega | (simp [lenOf, app]; omega) | (simp only [lenOf]; omega))) | (rw [lt_no]; rotate_left; (first | omega | (simp [lenOf, app]; omega) | (simp only [lenOf]; omega))) | (rw [idxA_at]; rotate_left; (first | omega | (simp [lenOf, app]; omega) | (simp only [lenOf]; omega))) | (rw [wr_up]; rotate_left; (first | omega | (simp [lenOf, app]; omega) | (simp only [lenOf]; omega))) | ((first | rw [drop_cI] | rw [drop_cE] | rw [drop_cS] | rw [drop_cP] | rw [drop_cR]); rotate_left; assumption)); try simp only [go_sem, ↓reduceIte, Nat.reduceAdd, Nat.reduceEqDiff, Nat.reduceLT, Nat.reduceLeDiff, Nat.reduceBEq, Int.reduceEq, Int.reduceLT, Int.reduceLE]))
  | true =>
    rw [hT] at h46
    obtain ⟨hc, hT1⟩ := ready_inv hT
    obtain ⟨hl1, hl2⟩ := thin_len hT1
    have hG := good_of_check hc
    have hw0 := hG.w0
    have hw6 := hG.w6
    by_cases hz : S.women = 0
    · obtain ⟨w, es, ss⟩ := S
      obtain ⟨N, O, p, q⟩ := s
      simp only at hz
      subst hz
      (try simp only [go_sem, ↓reduceIte, Nat.reduceAdd, Nat.reduceEqDiff, Nat.reduceLT, Nat.reduceLeDiff, Nat.reduceBEq, Int.reduceEq, Int.reduceLT, Int.reduceLE]); (repeat ((first | simp only [h46] | simp only [h22] | (rw [lt_yes]; rotate_left; (first | omega | (simp [lenOf, app]; omega) | (simp only [lenOf]; omega))) | (rw [lt_no]; rotate_left; (first | omega | (simp [lenOf, app]; omega) | (simp only [lenOf]; omega))) | (rw [idxA_at]; rotate_left; (first | omega | (simp [lenOf, app]; omega) | (simp only [lenOf]; omega))) | (rw [wr_up]; rotate_left; (first | omega | (simp [lenOf, app]; omega) | (simp only [lenOf]; omega))) | ((first | rw [drop_cI] | rw [drop_cE] | rw [drop_cS] | rw [drop_cP] | rw [drop_cR]); rotate_left; assumption)); try simp only [go_sem, ↓reduceIte, Nat.reduceAdd, Nat.reduceEqDiff, Nat.reduceLT, Nat.reduceLeDiff, Nat.reduceBEq, Int.reduceEq, Int.reduceLT, Int.reduceLE]))
    · have h24 := fun s => k24 S (by omega) (by omega) s
      have h23 := fun s => k23 S s
      have h38 := fun s => k38 S s
      obtain ⟨hm, hM⟩ := many_of_check hc
      have h47 := fun s => k47 S (by omega) (by omega) hG.oe (prodN S.es) (by omega) hM s
      obtain ⟨n, hnw⟩ : ∃ n : Nat, S.women = Int.ofNat n := ⟨S.women.toNat, by simp; omega⟩
      have hn0 : n ≠ 0 := by intro h; rw [h] at hnw; exact hz hnw
      have hn6 : n ≤ 6 := by rw [hnw] at hw6; change (n : Int) ≤ 6 at hw6; omega
      have hnz : ¬ Int.ofNat n = 0 := by simp; exact hn0
      have hwt : wr .i64 (Int.ofNat t) = Int.ofNat t := wr_nat (by omega)
      have hrem : remI (Int.ofNat t) (Int.ofNat n) = some (i64 (Int.ofNat (bmod t n))) := rem_at hn0
      have hun : bmod t n < n := Nat.mod_lt _ (by omega)
      by_cases he : askedErr S = 0
      · have hne : asked S ≠ [] := by
          intro h
          simp [askedErr, hc, h] at he
        have hbl : boundsL S = boundsP (asked S) 0 S.women.toNat := by simp [boundsL, he]
        have hfs : fewestP S = pBounds payV (asked S) := by unfold fewestP; rw [if_pos he]
        have hTl : (truths S (prodN S.es)).length < 1000000 := by have := upto_len (f := truthF S) (fun n => by unfold truthF; split <;> simp) 0 (prodN S.es); unfold truths; omega
        have hTL : ∀ L ∈ truths S (prodN S.es), L.length = S.es.length := fun L hL => areOz_len ((mem_truths hG L).1 hL).1
        have hTn : ¬ Int.ofNat (lenOf (truths S (prodN S.es))) = 0 := by
          intro h
          have h0 : truths S (prodN S.es) = [] := List.length_eq_zero_iff.mp (Int.ofNat.inj h)
          cases ha : asked S with
          | nil => exact hne ha
          | cons a l =>
            obtain ⟨L, hL, _⟩ := asked_truth hG (a := a) (by rw [ha]; simp)
            rw [h0] at hL; simp at hL
        have hR : (boundsL S)[bmod t n]? = some (boundsF (asked S) (bmod t n)) := by
          rw [hbl, hnw]
          simp [boundsP, hun]
        have hRl : lenOf (boundsL S) = n := by rw [hbl, hnw]; simp [boundsP, lenOf]
        generalize bmod t n = u at hrem hun hR
        have hu6 : u < 6 := by omega
        obtain ⟨_, ⟨a1, ha1, v1⟩, ⟨a2, ha2, v2⟩⟩ := pBounds_spec (fun a => a u) (asked S) hne
        obtain ⟨_, ⟨a3, ha3, v3⟩, ⟨a4, ha4, v4⟩⟩ := pBounds_spec payV (asked S) hne
        have hmet : metUp (endE S u (boundsF (asked S) u).lo (boundsF (asked S) u).hi (fewestP S).1 (fewestP S).2) 0 (truths S (prodN S.es)) = 15 := by
          apply metAll
          intro j hj
          match j, hj with
          | 0, _ =>
            obtain ⟨L, hL, hq⟩ := asked_truth hG ha1
            refine ⟨L, hL, ?_⟩
            show decide (owV S.es L u = (pBounds (fun a => a u) (asked S)).1) = true
            rw [v1, hq]; simp
          | 1, _ =>
            obtain ⟨L, hL, hq⟩ := asked_truth hG ha2
            refine ⟨L, hL, ?_⟩
            show decide (owV S.es L u = (pBounds (fun a => a u) (asked S)).2) = true
            rw [v2, hq]; simp
          | 2, _ =>
            obtain ⟨L, hL, hq⟩ := asked_truth hG ha3
            refine ⟨L, hL, ?_⟩
            show decide (payR S L = (fewestP S).1) = true
            rw [hfs, v3, hq, payV_same hc ((mem_truths hG L).1 hL).1]; simp
          | 3, _ =>
            obtain ⟨L, hL, hq⟩ := asked_truth hG ha4
            refine ⟨L, hL, ?_⟩
            show decide (payR S L = (fewestP S).2) = true
            rw [hfs, v4, hq, payV_same hc ((mem_truths hG L).1 hL).1]; simp
        obtain ⟨N, O, p, q⟩ := s
        obtain ⟨M', Q', hU, h0⟩ := l7_1 S u hw0 hw6 (truths S (prodN S.es)) hTl (by omega) hTL (boundsL S) (boundsF (asked S) u).lo (boundsF (asked S) u).hi (fewestP S).1 (fewestP S).2 hR N O p q (truths S (prodN S.es)).length 0 0 (na N 1) (.cells [i64 (fewestP S).1, i64 (fewestP S).2] :: O) (by omega) (by omega) (Under.init ..)
        rw [List.drop_zero, hmet, ofNat_0, show Int.ofNat 15 = 15 from rfl] at h0
        have hold := hU.old p q
        rw [he] at h23 h38
        generalize truths S (prodN S.es) = T at h47 h0 hTn
        generalize boundsL S = R at h23 h0 hRl
        generalize fewestP S = F at h38 h0
        obtain ⟨f1, f2⟩ := F
        obtain ⟨w, es, ss⟩ := S
        simp only at hnw h0
        subst hnw
        (try simp only [go_sem, ↓reduceIte, Nat.reduceAdd, Nat.reduceEqDiff, Nat.reduceLT, Nat.reduceLeDiff, Nat.reduceBEq, Int.reduceEq, Int.reduceLT, Int.reduceLE]); (repeat ((first | simp only [h46] | rw [eq_n hnz] | rw [hwt] | rw [hrem] | simp only [h24] | simp only [h23] | simp only [h38] | simp only [h47] | rw [eq_n hTn] | simp only [hRl] | rw [eq_y rfl] | rw [h0] | simp only [h22] | rw [hold] | (rw [lt_yes]; rotate_left; (first | omega | (simp [lenOf, app]; omega) | (simp only [lenOf]; omega))) | (rw [lt_no]; rotate_left; (first | omega | (simp [lenOf, app]; omega) | (simp only [lenOf]; omega))) | (rw [idxA_at]; rotate_left; (first | omega | (simp [lenOf, app]; omega) | (simp only [lenOf]; omega))) | (rw [wr_up]; rotate_left; (first | omega | (simp [lenOf, app]; omega) | (simp only [lenOf]; omega))) | ((first | rw [drop_cI] | rw [drop_cE] | rw [drop_cS] | rw [drop_cP] | rw [drop_cR]); rotate_left; assumption)); try simp only [go_sem, ↓reduceIte, Nat.reduceAdd, Nat.reduceEqDiff, Nat.reduceLT, Nat.reduceLeDiff, Nat.reduceBEq, Int.reduceEq, Int.reduceLT, Int.reduceLE]))
      · have he' : askedErr S = 11 := by
          rcases asked_or hc with h | h
          · exact absurd h he
          · exact h
        have hTz : truths S (prodN S.es) = [] := by
          have h := err_eq S
          rw [he'] at h
          unfold sureErr at h
          rw [if_neg (by simp [hc])] at h
          split at h
          · assumption
          · cases h
        rw [he'] at h23 h38
        rw [hTz] at h47
        generalize boundsL S = R at h23
        generalize fewestP S = F at h38
        obtain ⟨f1, f2⟩ := F
        obtain ⟨w, es, ss⟩ := S
        obtain ⟨N, O, p, q⟩ := s
        simp only at hnw
        subst hnw
        (try simp only [go_sem, ↓reduceIte, Nat.reduceAdd, Nat.reduceEqDiff, Nat.reduceLT, Nat.reduceLeDiff, Nat.reduceBEq, Int.reduceEq, Int.reduceLT, Int.reduceLE]); (repeat ((first | simp only [h46] | rw [eq_n hnz] | rw [hwt] | rw [hrem] | simp only [h24] | simp only [h23] | simp only [h38] | simp only [h47] | simp only [h22] | (rw [lt_yes]; rotate_left; (first | omega | (simp [lenOf, app]; omega) | (simp only [lenOf]; omega))) | (rw [lt_no]; rotate_left; (first | omega | (simp [lenOf, app]; omega) | (simp only [lenOf]; omega))) | (rw [idxA_at]; rotate_left; (first | omega | (simp [lenOf, app]; omega) | (simp only [lenOf]; omega))) | (rw [wr_up]; rotate_left; (first | omega | (simp [lenOf, app]; omega) | (simp only [lenOf]; omega))) | ((first | rw [drop_cI] | rw [drop_cE] | rw [drop_cS] | rw [drop_cP] | rw [drop_cR]); rotate_left; assumption)); try simp only [go_sem, ↓reduceIte, Nat.reduceAdd, Nat.reduceEqDiff, Nat.reduceLT, Nat.reduceLeDiff, Nat.reduceBEq, Int.reduceEq, Int.reduceLT, Int.reduceLE]))
theorem Try_own : ownKnob Try.prog.godebug = none := by kernel_rfl
theorem ends_lifted (os : Os) (started : os.Started) (H : Type) (enc : TypeId × Value → H) :
    ReturnsInHanded {} Try.checked os 7 .any (Ytlhfeiacigmliaa.Rows.soapEndsSpec.pre6 enc Try.prog Try.f7 Ytlhfeiacigmliaa.Rows.soapEndsRow.domain false) (Ytlhfeiacigmliaa.Rows.soapEndsSpec.post enc Try.prog Try.f7 false true false false) := by
  refine returnsInHanded_of_change (C := Try.checked) Try_own started (by kernel_rfl) Try.func7
    (ChangeSpec.witness6 (enc := enc) (C := Try.checked) false ⟨#[], #[.agg #[.int .i64 0, .slice none 0 0, .slice none 0 0], .int .u8 0], []⟩ 8 (by kernel_rfl) (by kernel_rfl) (by kernel_rfl) (by kernel_rfl)) ?_
  intro W base args ds gs before hval0 hW hcnd _
  have hval : ∀ (j : Nat) t v, Try.f7.params[j]? = some t → args[j]? = some v → Value.okWide Try.prog W .any base t v := hval0
  have hW' := hW
  obtain ⟨p, q, hA0, hV, rfl, hfz, hnd⟩ := hW
  have hA : DataW.TrodAll enc Try.prog W 0 (fun _ => true) true Try.f7.params.toList args.toList ds p := hA0
  rw [Try.params7] at hA hval
  obtain ⟨v0, v1, d0, d1, p0, p1, rfl, rfl, hp, h0, h1⟩ := trodAll_two hA
  obtain ⟨rfl, rfl⟩ := trodVars_none hV
  obtain ⟨x0, r0⟩ := rel_slate (hval 0 25 v0 rfl rfl) h0
  obtain ⟨x1, l1, r1⟩ := rel_u8 (hval 1 5 v1 rfl rfl) h1
  refine (sound_lim tbl_ok (k7 x0 x1 l1 St.empty) (sim0 Try.prog W) (args' := #[v0, v1]) ⟨v0, [v1], rfl, r0, ⟨v1, [], rfl, r1, rfl⟩⟩).mono fun e W' he => ?_
  obtain ⟨v', ρ', he, hv, _, hF⟩ := he
  subst he
  have hv : v' = .bool true := hv
  subst hv
  exact ⟨_, rfl, shut_true hW' rfl rfl (by rw [Try.params7]; intro t ht; simp at ht; rcases ht with rfl | rfl <;> exact ⟨by kernel_rfl, of_decide_eq_true (by kernel_rfl)⟩) rfl rfl rfl hF⟩
theorem ends_holds : Ytlhfeiacigmliaa.Rows.SoapEndsSaid :=
  OpenClaim.holds_of_wide 7 Try.f7 rfl rfl rfl rfl rfl rfl rfl ⟨rfl, rfl, rfl, rfl, rfl⟩ rfl rfl rfl rfl rfl (by kernel_rfl) Try.func7 (by kernel_rfl)
    (of_decide_eq_true (by kernel_rfl)) (by unfold Func.isWrapper; first | (rw [if_pos (by decide +kernel)]; kernel_rfl) | (rw [if_neg (by decide +kernel)]; exact ⟨rfl, rfl⟩))
    (fun os started H enc _ => ends_lifted os started H enc)
#print axioms ends_holds
end Go.Proofs.Ytlhfeiacigmliaa
