/- The wash-house's soap: what the functions compute: the fewest payments' number in all truths. -/
import Derived.Test.YtlhfeiacigmliaaPartH
import Derived.Test.YtlhfeiacigmliaaRows
import Derived.ProofKit
set_option linter.all false
namespace Go.Proofs.Ytlhfeiacigmliaa
open Go
set_option maxRecDepth 10000

theorem Eff.one {P : (Nat → Int) → List (List AVal × AVal) → Prop} {T : List Purse} (hn : (T.map (·.2)).Nodup) {x : Purse} (hx : x ∈ T) {M : Nat} {Q : List AObj} (hm : MapsOk P T M Q) {M' : Nat} {Q' : List AObj} (h : Eff P [x] M Q M' Q') : Eff P T M Q M' Q' := by
  refine ⟨fun b o hb g => h.keep b o (by simpa using hb x hx) g, fun N0 O0 hN g => h.old N0 O0 (by simpa using hN x hx) g, fun y hy => ?_⟩
  by_cases he : y.2 = x.2
  · have : y = x := by
      obtain ⟨i, hi⟩ := List.mem_iff_getElem?.mp hy
      obtain ⟨k, hk⟩ := List.mem_iff_getElem?.mp hx
      have hl : i < T.length := by
        rcases Nat.lt_or_ge i T.length with h | h
        · exact h
        · rw [List.getElem?_eq_none h] at hi; cases hi
      have h1 : (T.map (·.2))[i]? = (T.map (·.2))[k]? := by simp [hi, hk, he]
      have := (List.getElem?_inj (by simpa using hl) hn).mp h1
      subst this
      rw [hi] at hk; exact Option.some.inj hk
    subst this
    exact h.maps y (by simp)
  · obtain ⟨es, h1, h2⟩ := hm y hy
    exact ⟨es, h.keep y.2 _ (by simpa using he) h1, h2⟩
def payV (a : Nat → Int) : Int := wr .i64 (Int.sub (Int.ofNat (lenOf (bitsOf (openN a)))) (Int.ofNat (mostN a (openN a))))
theorem k84 (a : Nat → Int) (m : Nat) (v : AVal) (p : Nat) (q : Nat → Nat) (M : Nat) (Q : List AObj) (hm : MapsOk Memo [(a, m)] M Q) : ∃ M' Q', Eff Memo [(a, m)] M Q M' Q' ∧ lim tbl (.call 84 [.vref (c7 a m), v]) ⟨M, Q, p, q⟩ = some (.ret, [i64 (payV a)], ⟨M', Q', p, q⟩) := by
  have h110 := fun s => k110 a m s
  have hp60 : pw 60 = 1152921504606846976 := by rfl
  have ho := openN_lt a
  have h113 := fun s => k113 (openN a) (by omega) s
  obtain ⟨M', Q', hE, h112⟩ := k112 a m p q (openN a) ho M Q hm
  refine ⟨M', Q', hE, ?_⟩
  rw [lim_call tbl_84]
  unfold payV
  (try simp only [go_sem, ↓reduceIte, Nat.reduceAdd, Nat.reduceEqDiff, Nat.reduceLT, Nat.reduceLeDiff, Nat.reduceBEq, Int.reduceEq, Int.reduceLT, Int.reduceLE]); (repeat ((first | simp only [h110] | simp only [h113] | rw [h112] | (rw [lt_yes]; rotate_left; (first | omega | (simp [lenOf, app]; omega) | (simp only [lenOf]; omega))) | (rw [lt_no]; rotate_left; (first | omega | (simp [lenOf, app]; omega) | (simp only [lenOf]; omega))) | (rw [idxA_at]; rotate_left; (first | omega | (simp [lenOf, app]; omega) | (simp only [lenOf]; omega))) | (rw [wr_up]; rotate_left; (first | omega | (simp [lenOf, app]; omega) | (simp only [lenOf]; omega))) | ((first | rw [drop_cI] | rw [drop_cE] | rw [drop_cS] | rw [drop_cP] | rw [drop_cR]); rotate_left; assumption)); try simp only [go_sem, ↓reduceIte, Nat.reduceAdd, Nat.reduceEqDiff, Nat.reduceLT, Nat.reduceLeDiff, Nat.reduceBEq, Int.reduceEq, Int.reduceLT, Int.reduceLE]))
def fewestP (S : Slate) : Int × Int := if askedErr S = 0 then pBounds payV (asked S) else (0, 0)
theorem k38 (S : Slate) (s : St) : lim tbl (.call 38 [vSl S]) s = some (.ret, [.tup [.agg [i64 (fewestP S).1, i64 (fewestP S).2], i64 (askedErr S)]], s) := by
  rw [lim_call tbl_38]
  by_cases hc : checkSlate S = 0
  · obtain ⟨N, O, p, q⟩ := s
    obtain ⟨T, M, Q, hv, ho, htw, hm, hnd, hTl, h74⟩ := k74 S hc (na N 1) (.cells [i64 0, i64 0] :: O) p q
    have ho' : OldO N O M Q := ((OldO.refl N O).push _).trans ho
    by_cases hz : asked S = []
    · have he : askedErr S = 11 := by simp [askedErr, hc, hz]
      have hb : fewestP S = (0, 0) := by simp [fewestP, he]
      rw [if_pos hz] at h74
      rw [he, hb]
      have hg : gO M Q N = some (.cells [i64 0, i64 0]) := by
        obtain ⟨h1, h2⟩ := ho
        have h3 : gO (na N 1) (.cells [i64 0, i64 0] :: O) N = some (.cells [i64 0, i64 0]) := gO_new ..
        unfold gO at h3 ⊢
        rw [if_pos (by simp only [na] at h1; omega)]
        rw [if_pos (by simp [na]), ← h2, List.getElem?_drop] at h3
        rw [← h3]; congr 1; simp only [na] at h1 ⊢; omega
      obtain ⟨Q1, s1, _, g1, g2, g3⟩ := gO_set hg (.cells [i64 0, i64 0])
      have e1 : ∀ p' q', St.get ⟨M, Q, p', q'⟩ N = some (.cells [i64 0, i64 0]) := fun _ _ => hg
      have e2 : ∀ p' q', St.get ⟨M, Q1, p', q'⟩ N = some (.cells [i64 0, i64 0]) := fun _ _ => g1
      have hold := (g3 _ _ ho' (Nat.le_refl _)).oldr p q (roomP p (lenOf T)) (lenOf T)
      obtain ⟨w, es, ss⟩ := S
      (try simp only [go_sem, ↓reduceIte, Nat.reduceAdd, Nat.reduceEqDiff, Nat.reduceLT, Nat.reduceLeDiff, Nat.reduceBEq, Int.reduceEq, Int.reduceLT, Int.reduceLE]); (repeat ((first | rw [h74] | rw [e1] | rw [s1] | rw [e2] | rw [hold] | (rw [lt_yes]; rotate_left; (first | omega | (simp [lenOf, app]; omega) | (simp only [lenOf]; omega))) | (rw [lt_no]; rotate_left; (first | omega | (simp [lenOf, app]; omega) | (simp only [lenOf]; omega))) | (rw [idxA_at]; rotate_left; (first | omega | (simp [lenOf, app]; omega) | (simp only [lenOf]; omega))) | (rw [wr_up]; rotate_left; (first | omega | (simp [lenOf, app]; omega) | (simp only [lenOf]; omega))) | ((first | rw [drop_cI] | rw [drop_cE] | rw [drop_cS] | rw [drop_cP] | rw [drop_cR]); rotate_left; assumption)); try simp only [go_sem, ↓reduceIte, Nat.reduceAdd, Nat.reduceEqDiff, Nat.reduceLT, Nat.reduceLeDiff, Nat.reduceBEq, Int.reduceEq, Int.reduceLT, Int.reduceLE]))
    · have he : askedErr S = 0 := by simp [askedErr, hc, hz]
      have hb : fewestP S = pBounds payV (asked S) := by simp [fewestP, he]
      rw [if_neg hz] at h74
      rw [he, hb]
      have hg : gO M Q N = some (.cells [i64 0, i64 0]) := by
        obtain ⟨h1, h2⟩ := ho
        have h3 : gO (na N 1) (.cells [i64 0, i64 0] :: O) N = some (.cells [i64 0, i64 0]) := gO_new ..
        unfold gO at h3 ⊢
        rw [if_pos (by simp only [na] at h1; omega)]
        rw [if_pos (by simp [na]), ← h2, List.getElem?_drop] at h3
        rw [← h3]; congr 1; simp only [na] at h1 ⊢; omega
      have hm' : MapsOk Memo T M Q := fun x hx => ⟨[], (hm x hx).2, fun y hy => by simp at hy⟩
      obtain ⟨w, es, ss⟩ := S
      simp only at htw
      obtain ⟨M1, Q1, h1, h2, h3, hc76⟩ := k76 Memo T 84 0 payV (roomP p (lenOf T)) (roomC p q (lenOf T)) (fun x hx M Q hm => by
        obtain ⟨M', Q', hE, hl⟩ := k84 x.1 x.2 (i64 (Int.ofNat 0)) (roomP p (lenOf T)) (roomC p q (lenOf T)) M Q (fun y hy => by
          simp only [List.mem_singleton] at hy; subst hy; exact hm x hx)
        exact ⟨M', Q', hE.one hnd hx hm, by rw [hl]; rfl⟩) (by omega) p hTl (na N 1) [] _ _ _ M Q htw hm'
      rw [ofNat_0, hv] at hc76
      have hNT : ∀ x ∈ T, N < x.2 := fun x hx => by have := (hm x hx).1; simp only [na] at this; omega
      have hg1 := h1 N _ (fun x hx => Nat.ne_of_lt (hNT x hx)) hg
      generalize pBounds payV (asked ⟨w, es, ss⟩) = R at hc76 ⊢
      obtain ⟨lo, hi⟩ := R
      obtain ⟨Q2, s2, _, g1, g2, g3⟩ := gO_set hg1 (.cells [i64 lo, i64 hi])
      have e1 : ∀ p' q', St.get ⟨M1, Q1, p', q'⟩ N = some (.cells [i64 0, i64 0]) := fun _ _ => hg1
      have e2 : ∀ p' q', St.get ⟨M1, Q2, p', q'⟩ N = some (.cells [i64 lo, i64 hi]) := fun _ _ => g1
      have hold := (g3 _ _ (h2 N O (fun x hx => Nat.le_of_lt (hNT x hx)) ho') (Nat.le_refl _)).oldr p q (roomP p (lenOf T)) (lenOf T)
      simp only at hc76 ⊢
      (try simp only [go_sem, ↓reduceIte, Nat.reduceAdd, Nat.reduceEqDiff, Nat.reduceLT, Nat.reduceLeDiff, Nat.reduceBEq, Int.reduceEq, Int.reduceLT, Int.reduceLE]); (repeat ((first | rw [h74] | rw [hc76] | rw [e1] | rw [s2] | rw [e2] | rw [hold] | (rw [lt_yes]; rotate_left; (first | omega | (simp [lenOf, app]; omega) | (simp only [lenOf]; omega))) | (rw [lt_no]; rotate_left; (first | omega | (simp [lenOf, app]; omega) | (simp only [lenOf]; omega))) | (rw [idxA_at]; rotate_left; (first | omega | (simp [lenOf, app]; omega) | (simp only [lenOf]; omega))) | (rw [wr_up]; rotate_left; (first | omega | (simp [lenOf, app]; omega) | (simp only [lenOf]; omega))) | ((first | rw [drop_cI] | rw [drop_cE] | rw [drop_cS] | rw [drop_cP] | rw [drop_cR]); rotate_left; assumption)); try simp only [go_sem, ↓reduceIte, Nat.reduceAdd, Nat.reduceEqDiff, Nat.reduceLT, Nat.reduceLeDiff, Nat.reduceBEq, Int.reduceEq, Int.reduceLT, Int.reduceLE]))
  · have he : askedErr S = checkSlate S := by simp [askedErr, hc]
    have hb : fewestP S = (0, 0) := by simp [fewestP, he, hc]
    have h74 := fun s => k74n S hc s
    rw [he, hb]
    generalize checkSlate S = c at h74 hc ⊢
    obtain ⟨w, es, ss⟩ := S
    obtain ⟨N, O, p, q⟩ := s
    (try simp only [go_sem, ↓reduceIte, Nat.reduceAdd, Nat.reduceEqDiff, Nat.reduceLT, Nat.reduceLeDiff, Nat.reduceBEq, Int.reduceEq, Int.reduceLT, Int.reduceLE]); (repeat ((first | simp only [h74] | rw [eq_n hc] | (rw [lt_yes]; rotate_left; (first | omega | (simp [lenOf, app]; omega) | (simp only [lenOf]; omega))) | (rw [lt_no]; rotate_left; (first | omega | (simp [lenOf, app]; omega) | (simp only [lenOf]; omega))) | (rw [idxA_at]; rotate_left; (first | omega | (simp [lenOf, app]; omega) | (simp only [lenOf]; omega))) | (rw [wr_up]; rotate_left; (first | omega | (simp [lenOf, app]; omega) | (simp only [lenOf]; omega))) | ((first | rw [drop_cI] | rw [drop_cE] | rw [drop_cS] | rw [drop_cP] | rw [drop_cR]); rotate_left; assumption)); try simp only [go_sem, ↓reduceIte, Nat.reduceAdd, Nat.reduceEqDiff, Nat.reduceLT, Nat.reduceLeDiff, Nat.reduceBEq, Int.reduceEq, Int.reduceLT, Int.reduceLE]))
end Go.Proofs.Ytlhfeiacigmliaa

/- The wash-house's soap: what the functions compute: the document's groups and payments. -/
namespace Go.Proofs.Ytlhfeiacigmliaa
open Go
set_option maxRecDepth 10000

def togL (es : List Ent) (L : List Int) : Int → List Int → Int
  | n, [] => n
  | n, x :: l => togL es L (wr .i64 (Int.add n (owedUp 0 x es L))) l
def togA (es : List Ent) (L : List Int) (w : Nat) : Int := togL es L 0 (bitsOf w)
def openR (S : Slate) (L : List Int) : Nat := openUp (owV S.es L) 0 0 S.women.toNat
def low (w : Nat) : Nat := band w (18446744073709551616 - w)
def mostLp (T : Nat → Int) (M : Nat → Nat) (w : Nat) : Nat → Nat → Nat → Nat
  | 0, _, b => b
  | f + 1, g, b => if g = 0 then b else mostLp T M w f (band (g - 1) w) (if band g (low w) ≠ 0 ∧ T g = 0 then max b (1 + M (bsub w g)) else b)
def mostR (T : Nat → Int) : Nat → Nat → Nat
  | 0, _ => 0
  | f + 1, w => if w = 0 then 0 else mostLp T (mostR T f) w w w 0
section
variable (S : Slate) (L : List Int) (hE : S.es.length < 1000000) (hL : L.length = S.es.length)
include hE hL
end
def payR (S : Slate) (L : List Int) : Int := wr .i64 (Int.sub (Int.ofNat (lenOf (bitsOf (openR S L)))) (Int.ofNat (mostR (togA S.es L) 64 (openR S L))))
end Go.Proofs.Ytlhfeiacigmliaa

/- The wash-house's soap: what the functions compute: a purse's groups. -/
namespace Go.Proofs.Ytlhfeiacigmliaa
open Go
set_option maxRecDepth 10000
set_option linter.unusedSectionVars false

def findI (a : Nat → Int) (w left : Nat) : Nat → Nat → Option Nat
  | _, 0 => none
  | i, k + 1 => if bsub w (pw i) ≠ w ∧ mostN a (bsub w (pw i)) = left then some i else findI a w left (i + 1) k
def leftN (a : Nat → Int) (w : Nat) : Nat := mostUp (mostN a) w 0 0 6
def grp (a : Nat → Int) : Nat → Nat → Nat → List (List Int)
  | 0, _, _ => []
  | f + 1, w, g => if w = 0 then [] else match findI a w (leftN a w) 0 6 with
    | none => []
    | some i => if sumA a (bsub w (pw i)) = 0 then bitsOf (bor g (pw i)) :: grp a f (bsub w (pw i)) 0 else grp a f (bsub w (pw i)) (bor g (pw i))
theorem bor_64 {g i : Nat} (hg : g < 64) (hi : i < 6) : bor g (pw i) < 64 := by
  unfold bor pw
  exact Nat.or_lt_two_pow (n := 6) hg (Nat.pow_lt_pow_right (by omega) hi)
theorem mostUp_ge (g : Nat → Nat) (w : Nat) : ∀ (k i n : Nat), n ≤ mostUp g w n i k
  | 0, _, _ => Nat.le_refl _
  | k + 1, i, n => by
    rw [mostUp]
    refine Nat.le_trans ?_ (mostUp_ge g w k (i + 1) _)
    split <;> omega
theorem mostUp_bit (g : Nat → Nat) (w : Nat) : ∀ (k i n j : Nat), i ≤ j → j < i + k → bmod (bshr w j) 2 = 1 → g (bsub w (pw j)) ≤ mostUp g w n i k
  | 0, i, n, j, h1, h2, _ => by omega
  | k + 1, i, n, j, h1, h2, ht => by
    rw [mostUp]
    by_cases he : i = j
    · subst he
      rw [if_pos ht]
      exact Nat.le_trans (Nat.le_max_right ..) (mostUp_ge ..)
    · exact mostUp_bit g w k (i + 1) _ j (by omega) (by omega) ht
theorem mostUp_att (g : Nat → Nat) (w : Nat) : ∀ (k i n : Nat), mostUp g w n i k = n ∨ ∃ j, i ≤ j ∧ j < i + k ∧ bmod (bshr w j) 2 = 1 ∧ g (bsub w (pw j)) = mostUp g w n i k
  | 0, _, _ => Or.inl rfl
  | k + 1, i, n => by
    rw [mostUp]
    by_cases ht : bmod (bshr w i) 2 = 1
    · rw [if_pos ht]
      rcases mostUp_att g w k (i + 1) (max n (g (bsub w (pw i)))) with h | ⟨j, h1, h2, h3, h4⟩
      · rw [h]
        rcases Nat.le_total n (g (bsub w (pw i))) with hle | hle
        · right; exact ⟨i, by omega, by omega, ht, by rw [Nat.max_eq_right hle]⟩
        · left; exact Nat.max_eq_left hle
      · right; exact ⟨j, by omega, by omega, h3, h4⟩
    · rw [if_neg ht]
      rcases mostUp_att g w k (i + 1) n with h | ⟨j, h1, h2, h3, h4⟩
      · left; exact h
      · right; exact ⟨j, by omega, by omega, h3, h4⟩
theorem has_bit {w : Nat} (h0 : w ≠ 0) (h : w < 64) : ∃ j, j < 6 ∧ bmod (bshr w j) 2 = 1 := by
  by_cases h1 : ∃ j, j < 6 ∧ bmod (bshr w j) 2 = 1
  · exact h1
  · exfalso
    apply h0
    apply Nat.eq_of_testBit_eq
    intro j
    rw [Nat.zero_testBit]
    by_cases hj : j < 6
    · have : ¬ bmod (bshr w j) 2 = 1 := fun h2 => h1 ⟨j, hj, h2⟩
      rw [Nat.testBit_eq_decide_div_mod_eq, decide_eq_false_iff_not]
      unfold bmod bshr at this; rwa [Nat.shiftRight_eq_div_pow] at this
    · exact Nat.testBit_lt_two_pow (Nat.lt_of_lt_of_le h (Nat.pow_le_pow_right (n := 2) (i := 6) (by omega) (by omega)))
theorem findI_some {a : Nat → Int} {w left : Nat} : ∀ (k i j : Nat), i ≤ j → j < i + k → bsub w (pw j) ≠ w → mostN a (bsub w (pw j)) = left → ∃ x, findI a w left i k = some x ∧ i ≤ x ∧ x < i + k ∧ bsub w (pw x) ≠ w
  | 0, i, j, h1, h2, _, _ => by omega
  | k + 1, i, j, h1, h2, h3, h4 => by
    rw [findI]
    by_cases he : bsub w (pw i) ≠ w ∧ mostN a (bsub w (pw i)) = left
    · rw [if_pos he]; exact ⟨i, rfl, by omega, by omega, he.1⟩
    · rw [if_neg he]
      have : i ≠ j := fun h => he (by subst h; exact ⟨h3, h4⟩)
      obtain ⟨x, g1, g2, g3, g4⟩ := findI_some k (i + 1) j (by omega) (by omega) h3 h4
      exact ⟨x, g1, by omega, by omega, g4⟩
theorem findI_ok (a : Nat → Int) {w : Nat} (h0 : w ≠ 0) (h : w < 64) : ∃ x, findI a w (leftN a w) 0 6 = some x ∧ x < 6 ∧ bsub w (pw x) < w := by
  have : ∃ j, j < 6 ∧ bmod (bshr w j) 2 = 1 ∧ mostN a (bsub w (pw j)) = leftN a w := by
    rcases mostUp_att (mostN a) w 6 0 0 with h1 | ⟨j, _, h2, h3, h4⟩
    · obtain ⟨j, hj, hb⟩ := has_bit h0 h
      have := mostUp_bit (mostN a) w 6 0 0 j (by omega) (by omega) hb
      exact ⟨j, hj, hb, by unfold leftN; omega⟩
    · exact ⟨j, by omega, h3, h4⟩
  obtain ⟨j, hj, hb, hm⟩ := this
  obtain ⟨x, g1, _, g2, g3⟩ := findI_some (a := a) (left := leftN a w) 6 0 j (by omega) (by omega) (Nat.ne_of_lt (bsub_lt hb)) hm
  exact ⟨x, g1, by omega, by have := bsub_le w (pw x); omega⟩
section
variable (a : Nat → Int) (m : Nat)
theorem l81_0 (out : AVal) (w g left : Nat) (hw : w < 64) (hg : g < 64) (p : Nat) (q : Nat → Nat) : ∀ (k i : Nat) (M : Nat) (Q : List AObj), i + k = 6 → MapsOk Memo [(a, m)] M Q →
    ∃ M' Q', Eff Memo [(a, m)] M Q M' Q' ∧ lim tbl (.loop a81_l0 58 ⟨[0, 2, 3, 4, 6, 24], [0, 2, 3, 4], []⟩ [.vref (c7 a m), out, i64 (Int.ofNat w), i64 (Int.ofNat g), i64 (Int.ofNat left), i64 (Int.ofNat i)]) ⟨M, Q, p, q⟩
      = some (.exit 2, [.vref (c7 a m), out, i64 (Int.ofNat (match findI a w left i k with | none => w | some x => bsub w (pw x))), i64 (Int.ofNat (match findI a w left i k with | none => g | some x => bor g (pw x)))], ⟨M', Q', p, q⟩) := by
  intro k
  induction k with
  | zero =>
    intro i M Q hi hm
    have h6 : ¬ Int.ofNat i < 6 := by simp; omega
    refine ⟨M, Q, Eff.refl hm, ?_⟩
    simp only [findI]
    rw [lim_loop]
    (try simp only [go_sem, ↓reduceIte, Nat.reduceAdd, Nat.reduceEqDiff, Nat.reduceLT, Nat.reduceLeDiff, Nat.reduceBEq, Int.reduceEq, Int.reduceLT, Int.reduceLE]); (repeat ((first | rw [lt_n h6] | (rw [lt_yes]; rotate_left; (first | omega | (simp [lenOf, app]; omega) | (simp only [lenOf]; omega))) | (rw [lt_no]; rotate_left; (first | omega | (simp [lenOf, app]; omega) | (simp only [lenOf]; omega))) | (rw [idxA_at]; rotate_left; (first | omega | (simp [lenOf, app]; omega) | (simp only [lenOf]; omega))) | (rw [wr_up]; rotate_left; (first | omega | (simp [lenOf, app]; omega) | (simp only [lenOf]; omega))) | ((first | rw [drop_cI] | rw [drop_cE] | rw [drop_cS] | rw [drop_cP] | rw [drop_cR]); rotate_left; assumption)); try simp only [go_sem, ↓reduceIte, Nat.reduceAdd, Nat.reduceEqDiff, Nat.reduceLT, Nat.reduceLeDiff, Nat.reduceBEq, Int.reduceEq, Int.reduceLT, Int.reduceLE]))
  | succ k ih =>
    intro i M Q hi hm
    have h6 : Int.ofNat i < 6 := by simp; omega
    have hpw : pw i < 9223372036854775808 := pw_lt (by omega)
    have hsh : shlI 1 (Int.ofNat i) = some (i64 (Int.ofNat (pw i))) := shl1_at (by omega)
    have hsub : bitsA .andNot .i64 (Int.ofNat w) (Int.ofNat (pw i)) = some (i64 (Int.ofNat (bsub w (pw i)))) := bits_sub (by omega) hpw
    have hor : bitsA .or .i64 (Int.ofNat g) (Int.ofNat (pw i)) = some (i64 (Int.ofNat (bor g (pw i)))) := bits_or (by omega) hpw
    have hle := bsub_le w (pw i)
    rw [findI]
    by_cases hb : bsub w (pw i) = w
    · obtain ⟨M', Q', hE, h'⟩ := ih (i + 1) M Q (by omega) hm
      refine ⟨M', Q', hE, ?_⟩
      rw [if_neg (fun h => h.1 hb), lim_loop]
      generalize hR : some (_, _, _) = R at h' ⊢
      (try simp only [go_sem, ↓reduceIte, Nat.reduceAdd, Nat.reduceEqDiff, Nat.reduceLT, Nat.reduceLeDiff, Nat.reduceBEq, Int.reduceEq, Int.reduceLT, Int.reduceLE]); (repeat ((first | rw [lt_y h6] | rw [hsh] | rw [hsub] | rw [eqN_y hb] | (rw [lt_yes]; rotate_left; (first | omega | (simp [lenOf, app]; omega) | (simp only [lenOf]; omega))) | (rw [lt_no]; rotate_left; (first | omega | (simp [lenOf, app]; omega) | (simp only [lenOf]; omega))) | (rw [idxA_at]; rotate_left; (first | omega | (simp [lenOf, app]; omega) | (simp only [lenOf]; omega))) | (rw [wr_up]; rotate_left; (first | omega | (simp [lenOf, app]; omega) | (simp only [lenOf]; omega))) | ((first | rw [drop_cI] | rw [drop_cE] | rw [drop_cS] | rw [drop_cP] | rw [drop_cR]); rotate_left; assumption)); try simp only [go_sem, ↓reduceIte, Nat.reduceAdd, Nat.reduceEqDiff, Nat.reduceLT, Nat.reduceLeDiff, Nat.reduceBEq, Int.reduceEq, Int.reduceLT, Int.reduceLE]))
      exact h'
    · obtain ⟨M1, Q1, hE1, hc⟩ := k112 a m p q (bsub w (pw i)) (by omega) M Q hm
      by_cases hl : mostN a (bsub w (pw i)) = left
      · refine ⟨M1, Q1, hE1, ?_⟩
        rw [if_pos ⟨hb, hl⟩, lim_loop]
        simp only
        generalize bsub w (pw i) = z at hsub hb hc hl ⊢
        generalize mostN a z = y at hc hl
        (try simp only [go_sem, ↓reduceIte, Nat.reduceAdd, Nat.reduceEqDiff, Nat.reduceLT, Nat.reduceLeDiff, Nat.reduceBEq, Int.reduceEq, Int.reduceLT, Int.reduceLE]); (repeat ((first | rw [lt_y h6] | rw [hsh] | rw [hsub] | rw [eqN_n hb] | rw [hc] | rw [eqN_y hl] | rw [hor] | (rw [lt_yes]; rotate_left; (first | omega | (simp [lenOf, app]; omega) | (simp only [lenOf]; omega))) | (rw [lt_no]; rotate_left; (first | omega | (simp [lenOf, app]; omega) | (simp only [lenOf]; omega))) | (rw [idxA_at]; rotate_left; (first | omega | (simp [lenOf, app]; omega) | (simp only [lenOf]; omega))) | (rw [wr_up]; rotate_left; (first | omega | (simp [lenOf, app]; omega) | (simp only [lenOf]; omega))) | ((first | rw [drop_cI] | rw [drop_cE] | rw [drop_cS] | rw [drop_cP] | rw [drop_cR]); rotate_left; assumption)); try simp only [go_sem, ↓reduceIte, Nat.reduceAdd, Nat.reduceEqDiff, Nat.reduceLT, Nat.reduceLeDiff, Nat.reduceBEq, Int.reduceEq, Int.reduceLT, Int.reduceLE]))
      · obtain ⟨M', Q', hE, h'⟩ := ih (i + 1) M1 Q1 (by omega) hE1.maps
        refine ⟨M', Q', hE1.trans hE, ?_⟩
        rw [if_neg (fun h => hl h.2), lim_loop]
        generalize hR : some (_, _, _) = R at h' ⊢
        (try simp only [go_sem, ↓reduceIte, Nat.reduceAdd, Nat.reduceEqDiff, Nat.reduceLT, Nat.reduceLeDiff, Nat.reduceBEq, Int.reduceEq, Int.reduceLT, Int.reduceLE]); (repeat ((first | rw [lt_y h6] | rw [hsh] | rw [hsub] | rw [eqN_n hb] | rw [hc] | rw [eqN_n hl] | (rw [lt_yes]; rotate_left; (first | omega | (simp [lenOf, app]; omega) | (simp only [lenOf]; omega))) | (rw [lt_no]; rotate_left; (first | omega | (simp [lenOf, app]; omega) | (simp only [lenOf]; omega))) | (rw [idxA_at]; rotate_left; (first | omega | (simp [lenOf, app]; omega) | (simp only [lenOf]; omega))) | (rw [wr_up]; rotate_left; (first | omega | (simp [lenOf, app]; omega) | (simp only [lenOf]; omega))) | ((first | rw [drop_cI] | rw [drop_cE] | rw [drop_cS] | rw [drop_cP] | rw [drop_cR]); rotate_left; assumption)); try simp only [go_sem, ↓reduceIte, Nat.reduceAdd, Nat.reduceEqDiff, Nat.reduceLT, Nat.reduceLeDiff, Nat.reduceBEq, Int.reduceEq, Int.reduceLT, Int.reduceLE]))
        exact h'
theorem l81_1 (p : Nat) (q : Nat → Nat) : ∀ (f w g : Nat) (acc : List (List Int)) (M : Nat) (Q : List AObj), w < f → w < 64 → g < 64 → acc.length + w < 1000 → MapsOk Memo [(a, m)] M Q →
    ∃ M' Q', Eff Memo [(a, m)] M Q M' Q' ∧ lim tbl (.loop a81_l1 58 ⟨[0, 2, 3, 4], [2], []⟩ [.vref (c7 a m), ownSl cL p acc, i64 (Int.ofNat w), i64 (Int.ofNat g)]) ⟨M, Q, roomP p (lenOf acc), roomC p q (lenOf acc)⟩
      = some (.exit 0, [ownSl cL p (app acc (grp a f w g))], ⟨M', Q', roomP p (lenOf (app acc (grp a f w g))), roomC p q (lenOf (app acc (grp a f w g)))⟩) := by
  intro f
  induction f with
  | zero => intro w g acc M Q h; omega
  | succ f ih =>
    intro w g acc M Q hf hw hg ha hm
    rw [grp]
    by_cases h0 : w = 0
    · refine ⟨M, Q, Eff.refl hm, ?_⟩
      have hn : ¬ (0 : Int) < Int.ofNat w := by simp; omega
      rw [if_pos h0, app_nil, lim_loop]
      (try simp only [go_sem, ↓reduceIte, Nat.reduceAdd, Nat.reduceEqDiff, Nat.reduceLT, Nat.reduceLeDiff, Nat.reduceBEq, Int.reduceEq, Int.reduceLT, Int.reduceLE]); (repeat ((first | rw [lt_n hn] | (rw [lt_yes]; rotate_left; (first | omega | (simp [lenOf, app]; omega) | (simp only [lenOf]; omega))) | (rw [lt_no]; rotate_left; (first | omega | (simp [lenOf, app]; omega) | (simp only [lenOf]; omega))) | (rw [idxA_at]; rotate_left; (first | omega | (simp [lenOf, app]; omega) | (simp only [lenOf]; omega))) | (rw [wr_up]; rotate_left; (first | omega | (simp [lenOf, app]; omega) | (simp only [lenOf]; omega))) | ((first | rw [drop_cI] | rw [drop_cE] | rw [drop_cS] | rw [drop_cP] | rw [drop_cR]); rotate_left; assumption)); try simp only [go_sem, ↓reduceIte, Nat.reduceAdd, Nat.reduceEqDiff, Nat.reduceLT, Nat.reduceLeDiff, Nat.reduceBEq, Int.reduceEq, Int.reduceLT, Int.reduceLE]))
    · have hpos : (0 : Int) < Int.ofNat w := by simp; omega
      obtain ⟨x, hx, hx6, hlt⟩ := findI_ok a h0 hw
      rw [if_neg h0, hx]
      simp only
      have hg' := bor_64 hg hx6
      have h111 := fun s => k111 a m w s
      have h111' := fun s => k111 a m (bsub w (pw x)) s
      have hmn : mostN a w = leftN a w + (if sumA a w = 0 then 1 else 0) := by rw [mostN_eq, if_neg h0]; rfl
      have hle := mostN_le a w
      obtain ⟨M1, Q1, hE1, h112⟩ := k112 a m (roomP p (lenOf acc)) (roomC p q (lenOf acc)) w hw (na M 1) (.cells [i64 (Int.ofNat w), i64 (sumA a w)] :: Q) (hm.push _)
      have hbm : M ≠ m := by
        obtain ⟨es, h1, _⟩ := hm (a, m) (by simp)
        have := gO_lt h1; simp only at this; omega
      have g1 := hE1.keep M _ (by simpa using hbm) (gO_new M Q (.cells [i64 (Int.ofNat w), i64 (sumA a w)]))
      have e1 : ∀ p' q', St.get ⟨M1, Q1, p', q'⟩ M = some (.cells [i64 (Int.ofNat w), i64 (sumA a w)]) := fun _ _ => g1
      obtain ⟨M2, Q2, hE2, hl⟩ := l81_0 a m (ownSl cL p acc) w g (leftN a w) hw hg (roomP p (lenOf acc)) (roomC p q (lenOf acc)) 6 0 M1 Q1 (by omega) hE1.maps
      rw [hx, ofNat_0] at hl
      simp only at hl
      have hE12 := (hE1.trans hE2).push
      have hp60 : pw 60 = 1152921504606846976 := by rfl
      have h113 := fun s => k113 (bor g (pw x)) (by omega) s
      by_cases hs' : sumA a (bsub w (pw x)) = 0
      · have happ := append_own (f := cL) (sz := 1) (fun _ => rfl) 24 p q M2 Q2 acc (bitsOf (bor g (pw x))) [sl cI (bitsOf (bor g (pw x)))] rfl .full (by omega) (by omega)
        obtain ⟨M', Q', hE3, h'⟩ := ih (bsub w (pw x)) 0 (app acc [bitsOf (bor g (pw x))]) M2 Q2 (by omega) (by omega) (by omega) (by simp [app]; omega) hE2.maps
        rw [ofNat_0] at h'
        refine ⟨M', Q', hE12.trans hE3, ?_⟩
        rw [if_pos hs', app_assoc, lim_loop]
        generalize hR : some (_, _, _) = R at h' ⊢
        by_cases hs : sumA a w = 0
        · rw [if_pos hs] at hmn
          have hw1 : wr .i64 (Int.sub (Int.ofNat (mostN a w)) 1) = Int.ofNat (leftN a w) := by
            rw [hmn, fold_sub, wr_in] <;> simp <;> omega
          (try simp only [go_sem, ↓reduceIte, Nat.reduceAdd, Nat.reduceEqDiff, Nat.reduceLT, Nat.reduceLeDiff, Nat.reduceBEq, Int.reduceEq, Int.reduceLT, Int.reduceLE]); (repeat ((first | rw [lt_y hpos] | simp only [h111] | rw [h112] | rw [e1] | rw [eq_y hs] | rw [hw1] | rw [hl] | simp only [h111'] | rw [eq_y hs'] | simp only [h113] | rw [happ] | (rw [lt_yes]; rotate_left; (first | omega | (simp [lenOf, app]; omega) | (simp only [lenOf]; omega))) | (rw [lt_no]; rotate_left; (first | omega | (simp [lenOf, app]; omega) | (simp only [lenOf]; omega))) | (rw [idxA_at]; rotate_left; (first | omega | (simp [lenOf, app]; omega) | (simp only [lenOf]; omega))) | (rw [wr_up]; rotate_left; (first | omega | (simp [lenOf, app]; omega) | (simp only [lenOf]; omega))) | ((first | rw [drop_cI] | rw [drop_cE] | rw [drop_cS] | rw [drop_cP] | rw [drop_cR]); rotate_left; assumption)); try simp only [go_sem, ↓reduceIte, Nat.reduceAdd, Nat.reduceEqDiff, Nat.reduceLT, Nat.reduceLeDiff, Nat.reduceBEq, Int.reduceEq, Int.reduceLT, Int.reduceLE]))
          exact h'
        · rw [if_neg hs, Nat.add_zero] at hmn
          rw [hmn] at h112
          (try simp only [go_sem, ↓reduceIte, Nat.reduceAdd, Nat.reduceEqDiff, Nat.reduceLT, Nat.reduceLeDiff, Nat.reduceBEq, Int.reduceEq, Int.reduceLT, Int.reduceLE]); (repeat ((first | rw [lt_y hpos] | simp only [h111] | rw [h112] | rw [e1] | rw [eq_n hs] | rw [hl] | simp only [h111'] | rw [eq_y hs'] | simp only [h113] | rw [happ] | (rw [lt_yes]; rotate_left; (first | omega | (simp [lenOf, app]; omega) | (simp only [lenOf]; omega))) | (rw [lt_no]; rotate_left; (first | omega | (simp [lenOf, app]; omega) | (simp only [lenOf]; omega))) | (rw [idxA_at]; rotate_left; (first | omega | (simp [lenOf, app]; omega) | (simp only [lenOf]; omega))) | (rw [wr_up]; rotate_left; (first | omega | (simp [lenOf, app]; omega) | (simp only [lenOf]; omega))) | ((first | rw [drop_cI] | rw [drop_cE] | rw [drop_cS] | rw [drop_cP] | rw [drop_cR]); rotate_left; assumption)); try simp only [go_sem, ↓reduceIte, Nat.reduceAdd, Nat.reduceEqDiff, Nat.reduceLT, Nat.reduceLeDiff, Nat.reduceBEq, Int.reduceEq, Int.reduceLT, Int.reduceLE]))
          exact h'
      · obtain ⟨M', Q', hE3, h'⟩ := ih (bsub w (pw x)) (bor g (pw x)) acc M2 Q2 (by omega) (by omega) hg' (by omega) hE2.maps
        refine ⟨M', Q', hE12.trans hE3, ?_⟩
        rw [if_neg hs', lim_loop]
        generalize hR : some (_, _, _) = R at h' ⊢
        by_cases hs : sumA a w = 0
        · rw [if_pos hs] at hmn
          have hw1 : wr .i64 (Int.sub (Int.ofNat (mostN a w)) 1) = Int.ofNat (leftN a w) := by
            rw [hmn, fold_sub, wr_in] <;> simp <;> omega
          (try simp only [go_sem, ↓reduceIte, Nat.reduceAdd, Nat.reduceEqDiff, Nat.reduceLT, Nat.reduceLeDiff, Nat.reduceBEq, Int.reduceEq, Int.reduceLT, Int.reduceLE]); (repeat ((first | rw [lt_y hpos] | simp only [h111] | rw [h112] | rw [e1] | rw [eq_y hs] | rw [hw1] | rw [hl] | simp only [h111'] | rw [eq_n hs'] | (rw [lt_yes]; rotate_left; (first | omega | (simp [lenOf, app]; omega) | (simp only [lenOf]; omega))) | (rw [lt_no]; rotate_left; (first | omega | (simp [lenOf, app]; omega) | (simp only [lenOf]; omega))) | (rw [idxA_at]; rotate_left; (first | omega | (simp [lenOf, app]; omega) | (simp only [lenOf]; omega))) | (rw [wr_up]; rotate_left; (first | omega | (simp [lenOf, app]; omega) | (simp only [lenOf]; omega))) | ((first | rw [drop_cI] | rw [drop_cE] | rw [drop_cS] | rw [drop_cP] | rw [drop_cR]); rotate_left; assumption)); try simp only [go_sem, ↓reduceIte, Nat.reduceAdd, Nat.reduceEqDiff, Nat.reduceLT, Nat.reduceLeDiff, Nat.reduceBEq, Int.reduceEq, Int.reduceLT, Int.reduceLE]))
          exact h'
        · rw [if_neg hs, Nat.add_zero] at hmn
          rw [hmn] at h112
          (try simp only [go_sem, ↓reduceIte, Nat.reduceAdd, Nat.reduceEqDiff, Nat.reduceLT, Nat.reduceLeDiff, Nat.reduceBEq, Int.reduceEq, Int.reduceLT, Int.reduceLE]); (repeat ((first | rw [lt_y hpos] | simp only [h111] | rw [h112] | rw [e1] | rw [eq_n hs] | rw [hl] | simp only [h111'] | rw [eq_n hs'] | (rw [lt_yes]; rotate_left; (first | omega | (simp [lenOf, app]; omega) | (simp only [lenOf]; omega))) | (rw [lt_no]; rotate_left; (first | omega | (simp [lenOf, app]; omega) | (simp only [lenOf]; omega))) | (rw [idxA_at]; rotate_left; (first | omega | (simp [lenOf, app]; omega) | (simp only [lenOf]; omega))) | (rw [wr_up]; rotate_left; (first | omega | (simp [lenOf, app]; omega) | (simp only [lenOf]; omega))) | ((first | rw [drop_cI] | rw [drop_cE] | rw [drop_cS] | rw [drop_cP] | rw [drop_cR]); rotate_left; assumption)); try simp only [go_sem, ↓reduceIte, Nat.reduceAdd, Nat.reduceEqDiff, Nat.reduceLT, Nat.reduceLeDiff, Nat.reduceBEq, Int.reduceEq, Int.reduceLT, Int.reduceLE]))
          exact h'
def groupsA : List (List Int) := grp a 64 (openN a) 0
theorem k81 (p : Nat) (q : Nat → Nat) (M : Nat) (Q : List AObj) (hm : MapsOk Memo [(a, m)] M Q) : ∃ M' Q', Eff Memo [(a, m)] M Q M' Q' ∧
    lim tbl (.call 81 [.vref (c7 a m)]) ⟨M, Q, p, q⟩ = some (.ret, [ownSl cL p (groupsA a)], ⟨M', Q', roomP p (lenOf (groupsA a)), roomC p q (lenOf (groupsA a))⟩) := by
  have h110 := fun s => k110 a m s
  have ho := openN_lt a
  obtain ⟨M', Q', hE, h0⟩ := l81_1 a m p q 64 (openN a) 0 [] M Q ho ho (by omega) (by simp; omega) hm
  rw [nil_app, ownSl_nil, show lenOf ([] : List (List Int)) = 0 from rfl, roomP_0, roomC_0, ofNat_0] at h0
  change _ = some (_, [ownSl cL p (groupsA a)], (⟨_, _, roomP p (lenOf (groupsA a)), roomC p q (lenOf (groupsA a))⟩ : St)) at h0
  refine ⟨M', Q', hE, ?_⟩
  rw [lim_call tbl_81]
  generalize groupsA a = G at h0 ⊢
  (try simp only [go_sem, ↓reduceIte, Nat.reduceAdd, Nat.reduceEqDiff, Nat.reduceLT, Nat.reduceLeDiff, Nat.reduceBEq, Int.reduceEq, Int.reduceLT, Int.reduceLE]); (repeat ((first | simp only [h110] | rw [h0] | (rw [lt_yes]; rotate_left; (first | omega | (simp [lenOf, app]; omega) | (simp only [lenOf]; omega))) | (rw [lt_no]; rotate_left; (first | omega | (simp [lenOf, app]; omega) | (simp only [lenOf]; omega))) | (rw [idxA_at]; rotate_left; (first | omega | (simp [lenOf, app]; omega) | (simp only [lenOf]; omega))) | (rw [wr_up]; rotate_left; (first | omega | (simp [lenOf, app]; omega) | (simp only [lenOf]; omega))) | ((first | rw [drop_cI] | rw [drop_cE] | rw [drop_cS] | rw [drop_cP] | rw [drop_cR]); rotate_left; assumption)); try simp only [go_sem, ↓reduceIte, Nat.reduceAdd, Nat.reduceEqDiff, Nat.reduceLT, Nat.reduceLeDiff, Nat.reduceBEq, Int.reduceEq, Int.reduceLT, Int.reduceLE]))
end
/-- What Groups returns. -/
def groupsP (S : Slate) (L : List Int) : List (List Int) := if playErr S L = 0 then groupsA (playOw S L) else []
theorem k30 (S : Slate) (L : List Int) (s : St) : lim tbl (.call 30 [vSl S, sl cI L]) s = some (.ret, [.tup [sl cL (groupsP S L), i64 (playErr S L)]], s) := by
  have h79 := fun s => k79 S L good_of_check s
  rw [lim_call tbl_30]
  by_cases he : playErr S L = 0
  · have hb : groupsP S L = groupsA (playOw S L) := by simp [groupsP, he]
    rw [hb, he]
    rw [he] at h79
    generalize playOw S L = a at h79 ⊢
    obtain ⟨N, O, p, q⟩ := s
    have h80 := k80 a (na N 1) (.cells (c6 a) :: O) p q
    obtain ⟨M', Q', hE, h81⟩ := k81 a (na N 1) p q (na (na N 1) 1) (.map true [] :: .cells (c6 a) :: O) (fun x hx => by
      simp only [List.mem_singleton] at hx; subst hx
      exact ⟨[], gO_new .., fun y hy => by simp at hy⟩)
    have hold := (hE.old N O (by simp [na]) (((OldO.refl N O).push _).push _)).oldr p q (roomP p (lenOf (groupsA a))) (lenOf (groupsA a))
    obtain ⟨w, es, ss⟩ := S
    generalize groupsA a = G at h81 hold ⊢
    (try simp only [go_sem, ↓reduceIte, Nat.reduceAdd, Nat.reduceEqDiff, Nat.reduceLT, Nat.reduceLeDiff, Nat.reduceBEq, Int.reduceEq, Int.reduceLT, Int.reduceLE]); (repeat ((first | simp only [h79] | rw [h80] | rw [h81] | rw [hold] | (rw [lt_yes]; rotate_left; (first | omega | (simp [lenOf, app]; omega) | (simp only [lenOf]; omega))) | (rw [lt_no]; rotate_left; (first | omega | (simp [lenOf, app]; omega) | (simp only [lenOf]; omega))) | (rw [idxA_at]; rotate_left; (first | omega | (simp [lenOf, app]; omega) | (simp only [lenOf]; omega))) | (rw [wr_up]; rotate_left; (first | omega | (simp [lenOf, app]; omega) | (simp only [lenOf]; omega))) | ((first | rw [drop_cI] | rw [drop_cE] | rw [drop_cS] | rw [drop_cP] | rw [drop_cR]); rotate_left; assumption)); try simp only [go_sem, ↓reduceIte, Nat.reduceAdd, Nat.reduceEqDiff, Nat.reduceLT, Nat.reduceLeDiff, Nat.reduceBEq, Int.reduceEq, Int.reduceLT, Int.reduceLE]))
  · have hb : groupsP S L = [] := by simp [groupsP, he]
    rw [hb]
    generalize playErr S L = e at h79 he ⊢
    generalize playOw S L = A at h79 ⊢
    obtain ⟨w, es, ss⟩ := S
    obtain ⟨N, O, p, q⟩ := s
    (try simp only [go_sem, ↓reduceIte, Nat.reduceAdd, Nat.reduceEqDiff, Nat.reduceLT, Nat.reduceLeDiff, Nat.reduceBEq, Int.reduceEq, Int.reduceLT, Int.reduceLE]); (repeat ((first | simp only [h79] | rw [eq_n he] | (rw [lt_yes]; rotate_left; (first | omega | (simp [lenOf, app]; omega) | (simp only [lenOf]; omega))) | (rw [lt_no]; rotate_left; (first | omega | (simp [lenOf, app]; omega) | (simp only [lenOf]; omega))) | (rw [idxA_at]; rotate_left; (first | omega | (simp [lenOf, app]; omega) | (simp only [lenOf]; omega))) | (rw [wr_up]; rotate_left; (first | omega | (simp [lenOf, app]; omega) | (simp only [lenOf]; omega))) | ((first | rw [drop_cI] | rw [drop_cE] | rw [drop_cS] | rw [drop_cP] | rw [drop_cR]); rotate_left; assumption)); try simp only [go_sem, ↓reduceIte, Nat.reduceAdd, Nat.reduceEqDiff, Nat.reduceLT, Nat.reduceLeDiff, Nat.reduceBEq, Int.reduceEq, Int.reduceLT, Int.reduceLE]))
end Go.Proofs.Ytlhfeiacigmliaa

/- The wash-house's soap: what the functions compute: payments that settle. -/
namespace Go.Proofs.Ytlhfeiacigmliaa
open Go
set_option maxRecDepth 10000

theorem k115 (a : Nat → Int) (b j : Nat) (hj : j < 6) (s : St) (hg : s.get b = some (.cells (c6 a))) : lim tbl (.call 115 [i64 (Int.ofNat j), .ptr b 0]) s = some (.ret, [.bool (decide (a j < 0))], s) := by
  have hn := nthO_c6 a hj
  have hi : idxA (i64 (Int.ofNat j)) 6 = some j := idxA_at hj
  rw [lim_call tbl_115]; obtain ⟨N, O, p, q⟩ := s
  (try simp only [go_sem, ↓reduceIte, Nat.reduceAdd, Nat.reduceEqDiff, Nat.reduceLT, Nat.reduceLeDiff, Nat.reduceBEq, Int.reduceEq, Int.reduceLT, Int.reduceLE]); (repeat ((first | rw [hi] | rw [hg] | rw [hn] | (rw [lt_yes]; rotate_left; (first | omega | (simp [lenOf, app]; omega) | (simp only [lenOf]; omega))) | (rw [lt_no]; rotate_left; (first | omega | (simp [lenOf, app]; omega) | (simp only [lenOf]; omega))) | (rw [idxA_at]; rotate_left; (first | omega | (simp [lenOf, app]; omega) | (simp only [lenOf]; omega))) | (rw [wr_up]; rotate_left; (first | omega | (simp [lenOf, app]; omega) | (simp only [lenOf]; omega))) | ((first | rw [drop_cI] | rw [drop_cE] | rw [drop_cS] | rw [drop_cP] | rw [drop_cR]); rotate_left; assumption)); try simp only [go_sem, ↓reduceIte, Nat.reduceAdd, Nat.reduceEqDiff, Nat.reduceLT, Nat.reduceLeDiff, Nat.reduceBEq, Int.reduceEq, Int.reduceLT, Int.reduceLE]))
theorem k116 (a : Nat → Int) (b j : Nat) (hj : j < 6) (s : St) (hg : s.get b = some (.cells (c6 a))) : lim tbl (.call 116 [i64 (Int.ofNat j), .ptr b 0]) s = some (.ret, [.bool (decide (0 < a j))], s) := by
  have hn := nthO_c6 a hj
  have hi : idxA (i64 (Int.ofNat j)) 6 = some j := idxA_at hj
  rw [lim_call tbl_116]; obtain ⟨N, O, p, q⟩ := s
  (try simp only [go_sem, ↓reduceIte, Nat.reduceAdd, Nat.reduceEqDiff, Nat.reduceLT, Nat.reduceLeDiff, Nat.reduceBEq, Int.reduceEq, Int.reduceLT, Int.reduceLE]); (repeat ((first | rw [hi] | rw [hg] | rw [hn] | (rw [lt_yes]; rotate_left; (first | omega | (simp [lenOf, app]; omega) | (simp only [lenOf]; omega))) | (rw [lt_no]; rotate_left; (first | omega | (simp [lenOf, app]; omega) | (simp only [lenOf]; omega))) | (rw [idxA_at]; rotate_left; (first | omega | (simp [lenOf, app]; omega) | (simp only [lenOf]; omega))) | (rw [wr_up]; rotate_left; (first | omega | (simp [lenOf, app]; omega) | (simp only [lenOf]; omega))) | ((first | rw [drop_cI] | rw [drop_cE] | rw [drop_cS] | rw [drop_cP] | rw [drop_cR]); rotate_left; assumption)); try simp only [go_sem, ↓reduceIte, Nat.reduceAdd, Nat.reduceEqDiff, Nat.reduceLT, Nat.reduceLeDiff, Nat.reduceBEq, Int.reduceEq, Int.reduceLT, Int.reduceLE]))
theorem l114 {P : Nat → Bool} {G : AVal} (s : St) (gs : List Nat) (hl : gs.length < 1000000) (hG : ∀ e ∈ gs, callA (lim tbl) G [i64 (Int.ofNat e)] s = some (.bool (P e), s)) : ∀ (k i : Nat), i + k = gs.length → ∀ R,
    R = (match (gs.drop i).findIdx? P with | some j => some (.ret, [i64 (Int.ofNat (i + j))], s) | none => some (.exit 0, [], s)) →
    lim tbl (.loop a114_l0 19 ⟨[0, 1, 7, 8], [], [4]⟩ [sl cI (ints gs), G, i64 (Int.ofNat (lenOf (ints gs))), i64 (Int.ofNat i)]) s = R := by
  intro k
  have hlm : lenOf (ints gs) = gs.length := by simp [lenOf, ints]
  induction k with
  | zero =>
    intro i hi R hR
    rw [List.drop_eq_nil_of_le (by omega)] at hR
    simp only [List.findIdx?_nil] at hR
    rw [lim_loop]; obtain ⟨N, O, p, q⟩ := s
    (try simp only [go_sem, ↓reduceIte, Nat.reduceAdd, Nat.reduceEqDiff, Nat.reduceLT, Nat.reduceLeDiff, Nat.reduceBEq, Int.reduceEq, Int.reduceLT, Int.reduceLE]); (repeat ((first | (rw [lt_yes]; rotate_left; (first | omega | (simp [lenOf, app]; omega) | (simp only [lenOf]; omega))) | (rw [lt_no]; rotate_left; (first | omega | (simp [lenOf, app]; omega) | (simp only [lenOf]; omega))) | (rw [idxA_at]; rotate_left; (first | omega | (simp [lenOf, app]; omega) | (simp only [lenOf]; omega))) | (rw [wr_up]; rotate_left; (first | omega | (simp [lenOf, app]; omega) | (simp only [lenOf]; omega))) | ((first | rw [drop_cI] | rw [drop_cE] | rw [drop_cS] | rw [drop_cP] | rw [drop_cR]); rotate_left; assumption)); try simp only [go_sem, ↓reduceIte, Nat.reduceAdd, Nat.reduceEqDiff, Nat.reduceLT, Nat.reduceLeDiff, Nat.reduceBEq, Int.reduceEq, Int.reduceLT, Int.reduceLE]))
    exact hR.symm
  | succ k ih =>
    intro i hi R hR
    have hlt : i < gs.length := by omega
    obtain ⟨e, he, hd⟩ := getElem_drop hlt
    have he' := map_get he
    have hGe := hG e (List.mem_of_getElem? he)
    have hix : idxA (i64 (Int.ofNat i)) (lenOf (ints gs)) = some i := idxA_at (by simp [lenOf, ints]; omega)
    rw [hd, List.findIdx?_cons] at hR
    rw [lim_loop]
    cases hP : P e with
    | true =>
      rw [hP] at hGe hR
      simp only [if_true, Nat.add_zero] at hR
      obtain ⟨N, O, p, q⟩ := s
      (try simp only [go_sem, ↓reduceIte, Nat.reduceAdd, Nat.reduceEqDiff, Nat.reduceLT, Nat.reduceLeDiff, Nat.reduceBEq, Int.reduceEq, Int.reduceLT, Int.reduceLE]); (repeat ((first | rw [hix] | rw [hGe] | (rw [lt_yes]; rotate_left; (first | omega | (simp [lenOf, app]; omega) | (simp only [lenOf]; omega))) | (rw [lt_no]; rotate_left; (first | omega | (simp [lenOf, app]; omega) | (simp only [lenOf]; omega))) | (rw [idxA_at]; rotate_left; (first | omega | (simp [lenOf, app]; omega) | (simp only [lenOf]; omega))) | (rw [wr_up]; rotate_left; (first | omega | (simp [lenOf, app]; omega) | (simp only [lenOf]; omega))) | ((first | rw [drop_cI] | rw [drop_cE] | rw [drop_cS] | rw [drop_cP] | rw [drop_cR]); rotate_left; assumption)); try simp only [go_sem, ↓reduceIte, Nat.reduceAdd, Nat.reduceEqDiff, Nat.reduceLT, Nat.reduceLeDiff, Nat.reduceBEq, Int.reduceEq, Int.reduceLT, Int.reduceLE]))
      exact hR.symm
    | false =>
      rw [hP] at hGe hR
      have h' := ih (i + 1) (by omega) R (by
        rw [hR]; simp only [Bool.false_eq_true, if_false]
        cases (gs.drop (i + 1)).findIdx? P with
        | none => rfl
        | some j => simp only [Option.map_some]; rw [show i + (j + 1) = i + 1 + j by omega])
      obtain ⟨N, O, p, q⟩ := s
      (try simp only [go_sem, ↓reduceIte, Nat.reduceAdd, Nat.reduceEqDiff, Nat.reduceLT, Nat.reduceLeDiff, Nat.reduceBEq, Int.reduceEq, Int.reduceLT, Int.reduceLE]); (repeat ((first | rw [hix] | rw [hGe] | (rw [lt_yes]; rotate_left; (first | omega | (simp [lenOf, app]; omega) | (simp only [lenOf]; omega))) | (rw [lt_no]; rotate_left; (first | omega | (simp [lenOf, app]; omega) | (simp only [lenOf]; omega))) | (rw [idxA_at]; rotate_left; (first | omega | (simp [lenOf, app]; omega) | (simp only [lenOf]; omega))) | (rw [wr_up]; rotate_left; (first | omega | (simp [lenOf, app]; omega) | (simp only [lenOf]; omega))) | ((first | rw [drop_cI] | rw [drop_cE] | rw [drop_cS] | rw [drop_cP] | rw [drop_cR]); rotate_left; assumption)); try simp only [go_sem, ↓reduceIte, Nat.reduceAdd, Nat.reduceEqDiff, Nat.reduceLT, Nat.reduceLeDiff, Nat.reduceBEq, Int.reduceEq, Int.reduceLT, Int.reduceLE]))
      exact h'
theorem k114 {P : Nat → Bool} {f : Nat} {b : Nat} (s : St) (gs : List Nat) (hl : gs.length < 1000000) (hG : ∀ e ∈ gs, callA (lim tbl) (.fn (.func f) [] [.ptr b 0]) [i64 (Int.ofNat e)] s = some (.bool (P e), s)) :
    lim tbl (.call 114 [sl cI (ints gs), .fn (.func f) [] [.ptr b 0]]) s = some (.ret, [i64 (match gs.findIdx? P with | some j => Int.ofNat j | none => -1)], s) := by
  have h0 := l114 s gs hl hG gs.length 0 (by omega) _ rfl
  rw [List.drop_zero, ofNat_0] at h0
  rw [lim_call tbl_114]; obtain ⟨N, O, p, q⟩ := s
  cases hf : gs.findIdx? P with
  | some j =>
    rw [hf] at h0
    simp only [Nat.zero_add] at h0 ⊢
    (try simp only [go_sem, ↓reduceIte, Nat.reduceAdd, Nat.reduceEqDiff, Nat.reduceLT, Nat.reduceLeDiff, Nat.reduceBEq, Int.reduceEq, Int.reduceLT, Int.reduceLE]); (repeat ((first | rw [h0] | (rw [lt_yes]; rotate_left; (first | omega | (simp [lenOf, app]; omega) | (simp only [lenOf]; omega))) | (rw [lt_no]; rotate_left; (first | omega | (simp [lenOf, app]; omega) | (simp only [lenOf]; omega))) | (rw [idxA_at]; rotate_left; (first | omega | (simp [lenOf, app]; omega) | (simp only [lenOf]; omega))) | (rw [wr_up]; rotate_left; (first | omega | (simp [lenOf, app]; omega) | (simp only [lenOf]; omega))) | ((first | rw [drop_cI] | rw [drop_cE] | rw [drop_cS] | rw [drop_cP] | rw [drop_cR]); rotate_left; assumption)); try simp only [go_sem, ↓reduceIte, Nat.reduceAdd, Nat.reduceEqDiff, Nat.reduceLT, Nat.reduceLeDiff, Nat.reduceBEq, Int.reduceEq, Int.reduceLT, Int.reduceLE]))
  | none =>
    rw [hf] at h0
    simp only at h0 ⊢
    (try simp only [go_sem, ↓reduceIte, Nat.reduceAdd, Nat.reduceEqDiff, Nat.reduceLT, Nat.reduceLeDiff, Nat.reduceBEq, Int.reduceEq, Int.reduceLT, Int.reduceLE]); (repeat ((first | rw [h0] | (rw [lt_yes]; rotate_left; (first | omega | (simp [lenOf, app]; omega) | (simp only [lenOf]; omega))) | (rw [lt_no]; rotate_left; (first | omega | (simp [lenOf, app]; omega) | (simp only [lenOf]; omega))) | (rw [idxA_at]; rotate_left; (first | omega | (simp [lenOf, app]; omega) | (simp only [lenOf]; omega))) | (rw [wr_up]; rotate_left; (first | omega | (simp [lenOf, app]; omega) | (simp only [lenOf]; omega))) | ((first | rw [drop_cI] | rw [drop_cE] | rw [drop_cS] | rw [drop_cP] | rw [drop_cR]); rotate_left; assumption)); try simp only [go_sem, ↓reduceIte, Nat.reduceAdd, Nat.reduceEqDiff, Nat.reduceLT, Nat.reduceLeDiff, Nat.reduceBEq, Int.reduceEq, Int.reduceLT, Int.reduceLE]))
/-- The payments that settle a group. -/
def settleF : Nat → (Nat → Int) → List Nat → List Pay
  | 0, _, _ => []
  | f + 1, a, gs => match gs.findIdx? (fun j => decide (a j < 0)), gs.findIdx? (fun j => decide (0 < a j)) with
    | some i, some k =>
      let x := gs.getD i 0
      let y := gs.getD k 0
      let n := mn (-a x) (a y)
      ⟨Int.ofNat x, Int.ofNat y, n⟩ :: settleF f (put (put a x (a x + n)) y (put a x (a x + n) y - n)) gs
    | _, _ => []
/-- How many of a group are owed something. -/
def openC (a : Nat → Int) : List Nat → Nat
  | [] => 0
  | j :: gs => (if a j = 0 then 0 else 1) + openC a gs
theorem find_get {gs : List Nat} {P : Nat → Bool} {i : Nat} (h : gs.findIdx? P = some i) : ∃ hi : i < gs.length, P gs[i] = true := by
  rw [List.findIdx?_eq_some_iff_getElem] at h
  exact ⟨h.1, h.2.1⟩
theorem openC_le {a a' : Nat → Int} : ∀ {gs : List Nat} (_ : ∀ j ∈ gs, a j = 0 → a' j = 0), openC a' gs ≤ openC a gs
  | [], _ => Nat.le_refl _
  | y :: gs, h => by
    have ih := openC_le (gs := gs) fun j hj => h j (by simp [hj])
    have hy := h y (by simp)
    simp only [openC]
    split <;> split <;> first | omega | (rename_i h1 h2; exact absurd (hy h2) h1)
theorem openC_lt {a a' : Nat → Int} {gs : List Nat} (h : ∀ j ∈ gs, a j = 0 → a' j = 0) {j : Nat} (hj : j ∈ gs) (h1 : a j ≠ 0) (h2 : a' j = 0) : openC a' gs < openC a gs := by
  induction gs with
  | nil => simp at hj
  | cons x gs ih =>
    simp only [openC]
    by_cases hx : x = j
    · subst hx
      have := openC_le (gs := gs) fun j hj => h j (by simp [hj])
      rw [if_pos h2, if_neg h1]; omega
    · have hj' : j ∈ gs := by
        simp only [List.mem_cons] at hj
        rcases hj with hj | hj
        · exact absurd hj.symm hx
        · exact hj
      have ih' := ih (fun j hj => h j (by simp [hj])) hj'
      have hy := h x (by simp)
      split <;> split <;> first | omega | (rename_i g1 g2; exact absurd (hy g2) g1)
theorem openC_len (a : Nat → Int) : ∀ gs : List Nat, openC a gs ≤ gs.length
  | [] => Nat.le_refl _
  | j :: gs => by have := openC_len a gs; simp only [openC, List.length_cons]; split <;> omega
def Small (a : Nat → Int) : Prop := ∀ j, -1000000000 ≤ a j ∧ a j ≤ 1000000000
theorem l91 (gs : List Nat) (hgs : ∀ j ∈ gs, j < 6) (hl : gs.length < 1000) (N : Nat) (O : List AObj) (p : Nat) (q : Nat → Nat) : ∀ (f : Nat) (a : Nat → Int) (acc : List Pay), openC a gs < f → acc.length + f < 10000 → Small a →
    ∃ a', lim tbl (.loop a91_l0 64 ⟨[1, 4, 5], [], [4]⟩ [sl cI (ints gs), ownSl cP p acc, .ptr N 0]) ⟨na N 1, .cells (c6 a) :: O, roomP p (lenOf acc), roomC p q (lenOf acc)⟩
      = some (.ret, [ownSl cP p (app acc (settleF f a gs))], ⟨na N 1, .cells (c6 a') :: O, roomP p (lenOf (app acc (settleF f a gs))), roomC p q (lenOf (app acc (settleF f a gs)))⟩) := by
  intro f
  induction f with
  | zero => intro a acc h; omega
  | succ f ih =>
    intro a acc hf hacc hs
    have hG1 : ∀ p' q', ∀ e ∈ gs, callA (lim tbl) (.fn (.func 115) [] [.ptr N 0]) [i64 (Int.ofNat e)] ⟨na N 1, .cells (c6 a) :: O, p', q'⟩ = some (.bool (decide (a e < 0)), ⟨na N 1, .cells (c6 a) :: O, p', q'⟩) := fun p' q' e he => by
      have := k115 a N e (hgs e he) ⟨na N 1, .cells (c6 a) :: O, p', q'⟩ (get_1_0 ..)
      show (if 115 < 4096 then one (lim tbl (.call 115 [i64 (Int.ofNat e), .ptr N 0]) _) else none) = _
      rw [if_pos (by omega), this]; rfl
    have hG2 : ∀ p' q', ∀ e ∈ gs, callA (lim tbl) (.fn (.func 116) [] [.ptr N 0]) [i64 (Int.ofNat e)] ⟨na N 1, .cells (c6 a) :: O, p', q'⟩ = some (.bool (decide (0 < a e)), ⟨na N 1, .cells (c6 a) :: O, p', q'⟩) := fun p' q' e he => by
      have := k116 a N e (hgs e he) ⟨na N 1, .cells (c6 a) :: O, p', q'⟩ (get_1_0 ..)
      show (if 116 < 4096 then one (lim tbl (.call 116 [i64 (Int.ofNat e), .ptr N 0]) _) else none) = _
      rw [if_pos (by omega), this]; rfl
    have c1 := fun p' q' => k114 (P := fun j => decide (a j < 0)) ⟨na N 1, .cells (c6 a) :: O, p', q'⟩ gs (by omega) (hG1 p' q')
    have c2 := fun p' q' => k114 (P := fun j => decide (0 < a j)) ⟨na N 1, .cells (c6 a) :: O, p', q'⟩ gs (by omega) (hG2 p' q')
    have hneg : ((-1 : Int) < 0) := by omega
    rw [settleF]
    cases h1 : gs.findIdx? (fun j => decide (a j < 0)) with
    | none =>
      rw [h1] at c1
      refine ⟨a, ?_⟩
      simp only [app_nil] at c1 ⊢
      rw [lim_loop]
      (try simp only [go_sem, ↓reduceIte, Nat.reduceAdd, Nat.reduceEqDiff, Nat.reduceLT, Nat.reduceLeDiff, Nat.reduceBEq, Int.reduceEq, Int.reduceLT, Int.reduceLE]); (repeat ((first | rw [c1] | rw [c2] | rw [lt_y hneg] | (rw [lt_yes]; rotate_left; (first | omega | (simp [lenOf, app]; omega) | (simp only [lenOf]; omega))) | (rw [lt_no]; rotate_left; (first | omega | (simp [lenOf, app]; omega) | (simp only [lenOf]; omega))) | (rw [idxA_at]; rotate_left; (first | omega | (simp [lenOf, app]; omega) | (simp only [lenOf]; omega))) | (rw [wr_up]; rotate_left; (first | omega | (simp [lenOf, app]; omega) | (simp only [lenOf]; omega))) | ((first | rw [drop_cI] | rw [drop_cE] | rw [drop_cS] | rw [drop_cP] | rw [drop_cR]); rotate_left; assumption)); try simp only [go_sem, ↓reduceIte, Nat.reduceAdd, Nat.reduceEqDiff, Nat.reduceLT, Nat.reduceLeDiff, Nat.reduceBEq, Int.reduceEq, Int.reduceLT, Int.reduceLE]))
    | some i =>
      rw [h1] at c1
      have hi0 : ¬ (Int.ofNat i) < 0 := by simp
      cases h2 : gs.findIdx? (fun j => decide (0 < a j)) with
      | none =>
        rw [h2] at c2
        refine ⟨a, ?_⟩
        simp only [app_nil] at c1 c2 ⊢
        rw [lim_loop]
        (try simp only [go_sem, ↓reduceIte, Nat.reduceAdd, Nat.reduceEqDiff, Nat.reduceLT, Nat.reduceLeDiff, Nat.reduceBEq, Int.reduceEq, Int.reduceLT, Int.reduceLE]); (repeat ((first | rw [c1] | rw [c2] | rw [lt_n hi0] | rw [lt_y hneg] | (rw [lt_yes]; rotate_left; (first | omega | (simp [lenOf, app]; omega) | (simp only [lenOf]; omega))) | (rw [lt_no]; rotate_left; (first | omega | (simp [lenOf, app]; omega) | (simp only [lenOf]; omega))) | (rw [idxA_at]; rotate_left; (first | omega | (simp [lenOf, app]; omega) | (simp only [lenOf]; omega))) | (rw [wr_up]; rotate_left; (first | omega | (simp [lenOf, app]; omega) | (simp only [lenOf]; omega))) | ((first | rw [drop_cI] | rw [drop_cE] | rw [drop_cS] | rw [drop_cP] | rw [drop_cR]); rotate_left; assumption)); try simp only [go_sem, ↓reduceIte, Nat.reduceAdd, Nat.reduceEqDiff, Nat.reduceLT, Nat.reduceLeDiff, Nat.reduceBEq, Int.reduceEq, Int.reduceLT, Int.reduceLE]))
      | some k =>
        rw [h2] at c2
        have hk0 : ¬ (Int.ofNat k) < 0 := by simp
        obtain ⟨hil, hia⟩ := find_get h1
        obtain ⟨hkl, hka⟩ := find_get h2
        simp only [decide_eq_true_eq] at hia hka
        have gx : gs.getD i 0 = gs[i] := by simp [hil]
        have gy : gs.getD k 0 = gs[k] := by simp [hkl]
        simp only [gx, gy]
        have mx' : gs[i] ∈ gs := List.getElem_mem hil
        have my' : gs[k] ∈ gs := List.getElem_mem hkl
        have ix : (ints gs)[i]? = some (Int.ofNat gs[i]) := map_get (List.getElem?_eq_getElem hil)
        have iy : (ints gs)[k]? = some (Int.ofNat gs[k]) := map_get (List.getElem?_eq_getElem hkl)
        generalize gs[i] = x at hia mx' ix ⊢
        generalize gs[k] = y at hka my' iy ⊢
        have hx6 := hgs x mx'
        have hy6 := hgs y my'
        have hxy : x ≠ y := fun h => by subst h; omega
        have hix : idxA (i64 (Int.ofNat i)) (lenOf (ints gs)) = some i := idxA_at (by simp [lenOf, ints]; omega)
        have hiy : idxA (i64 (Int.ofNat k)) (lenOf (ints gs)) = some k := idxA_at (by simp [lenOf, ints]; omega)
        have dx := drop_cI ix
        have dy := drop_cI iy
        have jx : idxA (i64 (Int.ofNat x)) 6 = some x := idxA_at hx6
        have jy : idxA (i64 (Int.ofNat y)) 6 = some y := idxA_at hy6
        have sx := hs x
        have sy := hs y
        have wneg : wr .i64 (Int.sub 0 (a x)) = -a x := by rw [fold_sub, wr_in] <;> omega
        have hn : mn (-a x) (a y) = -a x ∨ mn (-a x) (a y) = a y := by unfold mn; omega
        have hnp : 0 < mn (-a x) (a y) ∧ mn (-a x) (a y) ≤ -a x ∧ mn (-a x) (a y) ≤ a y := by unfold mn; omega
        generalize hnn : mn (-a x) (a y) = n at hn hnp ⊢
        have wadd : wr .i64 (Int.add (a x) n) = a x + n := by rw [fold_add, wr_in] <;> omega
        have hpy : put a x (a x + n) y = a y := by simp [put, Ne.symm hxy]
        have wsub : wr .i64 (Int.sub (put a x (a x + n) y) n) = put a x (a x + n) y - n := by rw [hpy, fold_sub, wr_in] <;> omega
        have n1 := nthO_c6 a hx6
        have n2 := nthO_c6 a hy6
        have n3 := nthO_c6 (put a x (a x + n)) hy6
        have p1 := fun s b => storeP_c6_1 s b a (a x + n) hx6
        have p2 := fun s b => storeP_c6_1 s b (put a x (a x + n)) (put a x (a x + n) y - n) hy6
        have happ := append_own (f := cP) (sz := 3) (fun _ => rfl) 24 p q (na N 1) (.cells (c6 (put (put a x (a x + n)) y (put a x (a x + n) y - n))) :: O) acc ⟨Int.ofNat x, Int.ofNat y, n⟩ [i64 (Int.ofNat x), i64 (Int.ofNat y), i64 n] rfl .full (by omega) (by omega)
        have hopen : openC (put (put a x (a x + n)) y (put a x (a x + n) y - n)) gs < openC a gs := by
          rcases hn with h | h
          · refine openC_lt (fun j _ hj => ?_) mx' (by omega) ?_
            · have h1 : j ≠ x := fun h => by subst h; omega
              have h2 : j ≠ y := fun h => by subst h; omega
              simp [put, h1, h2, hj]
            · simp [put, hxy]; omega
          · refine openC_lt (fun j _ hj => ?_) my' (by omega) ?_
            · have h1 : j ≠ x := fun h => by subst h; omega
              have h2 : j ≠ y := fun h => by subst h; omega
              simp [put, h1, h2, hj]
            · simp only [put, if_true, if_neg (Ne.symm hxy)]; omega
        have hsmall : Small (put (put a x (a x + n)) y (put a x (a x + n) y - n)) := fun j => by
          rw [hpy]
          unfold put
          by_cases h2 : j = y
          · subst h2; rw [if_pos rfl]; omega
          · rw [if_neg h2]
            by_cases h1 : j = x
            · subst h1; rw [if_pos rfl]; omega
            · rw [if_neg h1]; exact hs j
        obtain ⟨a', h'⟩ := ih _ (app acc [⟨Int.ofNat x, Int.ofNat y, n⟩]) (by omega) (by simp [app]; omega) hsmall
        refine ⟨a', ?_⟩
        simp only at c1 c2
        rw [app_assoc, lim_loop]
        generalize hR : some (_, _, _) = R at h' ⊢
        (try simp only [go_sem, ↓reduceIte, Nat.reduceAdd, Nat.reduceEqDiff, Nat.reduceLT, Nat.reduceLeDiff, Nat.reduceBEq, Int.reduceEq, Int.reduceLT, Int.reduceLE]); (repeat ((first | rw [c1] | rw [c2] | rw [lt_n hi0] | rw [lt_n hk0] | rw [hix] | rw [hiy] | rw [dx] | rw [dy] | rw [jx] | rw [jy] | rw [n1] | rw [n2] | rw [wneg] | rw [hnn] | rw [wadd] | rw [p1] | rw [n3] | rw [wsub] | rw [p2] | rw [happ] | (rw [lt_yes]; rotate_left; (first | omega | (simp [lenOf, app]; omega) | (simp only [lenOf]; omega))) | (rw [lt_no]; rotate_left; (first | omega | (simp [lenOf, app]; omega) | (simp only [lenOf]; omega))) | (rw [idxA_at]; rotate_left; (first | omega | (simp [lenOf, app]; omega) | (simp only [lenOf]; omega))) | (rw [wr_up]; rotate_left; (first | omega | (simp [lenOf, app]; omega) | (simp only [lenOf]; omega))) | ((first | rw [drop_cI] | rw [drop_cE] | rw [drop_cS] | rw [drop_cP] | rw [drop_cR]); rotate_left; assumption)); try simp only [go_sem, ↓reduceIte, Nat.reduceAdd, Nat.reduceEqDiff, Nat.reduceLT, Nat.reduceLeDiff, Nat.reduceBEq, Int.reduceEq, Int.reduceLT, Int.reduceLE]))
        exact h'
theorem k91 (a : Nat → Int) (m : Nat) (gs : List Nat) (hgs : ∀ j ∈ gs, j < 6) (hl : gs.length < 1000) (hs : Small a) (s : St) : lim tbl (.call 91 [.vref (c7 a m), sl cI (ints gs)]) s = some (.ret, [sl cP (settleF 1000 a gs)], s) := by
  obtain ⟨N, O, p, q⟩ := s
  have ho : openC a gs < 1000 := by have := openC_len a gs; omega
  obtain ⟨a', h0⟩ := l91 gs hgs hl N O p q 1000 a [] ho (by simp) hs
  rw [nil_app, ownSl_nil, show lenOf ([] : List Pay) = 0 from rfl, roomP_0, roomC_0] at h0
  rw [lim_call tbl_91]
  generalize settleF 1000 a gs = R at h0 ⊢
  (try simp only [go_sem, ↓reduceIte, Nat.reduceAdd, Nat.reduceEqDiff, Nat.reduceLT, Nat.reduceLeDiff, Nat.reduceBEq, Int.reduceEq, Int.reduceLT, Int.reduceLE]); (repeat ((first | rw [h0] | (rw [lt_yes]; rotate_left; (first | omega | (simp [lenOf, app]; omega) | (simp only [lenOf]; omega))) | (rw [lt_no]; rotate_left; (first | omega | (simp [lenOf, app]; omega) | (simp only [lenOf]; omega))) | (rw [idxA_at]; rotate_left; (first | omega | (simp [lenOf, app]; omega) | (simp only [lenOf]; omega))) | (rw [wr_up]; rotate_left; (first | omega | (simp [lenOf, app]; omega) | (simp only [lenOf]; omega))) | ((first | rw [drop_cI] | rw [drop_cE] | rw [drop_cS] | rw [drop_cP] | rw [drop_cR]); rotate_left; assumption)); try simp only [go_sem, ↓reduceIte, Nat.reduceAdd, Nat.reduceEqDiff, Nat.reduceLT, Nat.reduceLeDiff, Nat.reduceBEq, Int.reduceEq, Int.reduceLT, Int.reduceLE]))
end Go.Proofs.Ytlhfeiacigmliaa

/- The wash-house's soap: what the functions compute: Settle. -/
namespace Go.Proofs.Ytlhfeiacigmliaa
open Go
set_option maxRecDepth 10000

@[go_sem] theorem frz1_own_cP (n : Nat) (s : St) (sz p : Nat) (l : List Pay) : frz1 n s sz (ownSl cP p l) = some (sl cP l) := frz1_ownSl (fun _ => rfl) ..
theorem app_list {α : Type} {f : α → List AVal} {sz : Nat} (hf : ∀ a, (f a).length = sz) (bytes : Nat) (p : Nat) (q : Nat → Nat) (N : Nat) (O : List AObj) (l l' : List α) (h : (l.length + l'.length) * bytes ≤ 140737488355328) (h' : l.length + l'.length ≤ 140737488355328) :
    appendA sz bytes (ownSl f p l) (sl f l') ⟨N, O, roomP p (lenOf l), roomC p q (lenOf l)⟩ = some (ownSl f p (app l l'), ⟨N, O, roomP p (lenOf (app l l')), roomC p q (lenOf (app l l'))⟩) := by
  have he : elemsA ⟨N, O, roomP p (lenOf l), roomC p q (lenOf l)⟩ sz (sl f l') = some (l'.length, cellsOf f l') := by simp [elemsA, sl, lenOf, cells_length hf]
  unfold appendA
  rw [he]
  simp only [lenOf, app]
  cases l' with
  | nil =>
    rw [List.append_nil]
    simp only [List.length_nil, if_true]
    unfold ownSl
    by_cases hl : l.length = 0
    · simp [hl]
    · simp [hl]
  | cons b l' =>
    simp only [show (b :: l').length ≠ 0 by simp, if_false]
    cases l with
    | nil =>
      simp only [ownSl, roomP, roomC, lenOf, app, List.length_nil, if_true, List.nil_append, show (b :: l').length ≠ 0 by simp, if_false]
      simp only [List.length_nil, Nat.zero_add] at h h'
      rw [if_pos ⟨h, h'⟩]
      rfl
    | cons a l =>
      have hlen : (cellsOf f (a :: l)).length = (a :: l).length * sz := cells_length hf _
      simp only [ownSl, roomP, roomC, lenOf, app, show (a :: l).length ≠ 0 by simp, if_false, List.length_append, show (a :: l).length + (b :: l').length ≠ 0 by simp]
      rw [if_pos ⟨hlen, h, h'⟩]
      simp only [if_true]
      rw [if_pos ⟨trivial, by omega⟩]
      simp only [cells_append, Option.some.injEq, Prod.mk.injEq, true_and]
      simp only [St.grow, St.mk.injEq, true_and]
      funext x
      by_cases hx : x = p <;> simp [hx]
theorem Small.ow {es : List Ent} (w : Int) : ∀ {L : List Int} (n : Int) (B : Int), OkE es → areOz es L = true → -B ≤ n → n ≤ B → B + 80 * es.length ≤ 1000000 → -(B + 80 * es.length) ≤ owedUp n w es L ∧ owedUp n w es L ≤ B + 80 * es.length := by
  induction es with
  | nil =>
    intro L n B _ h h1 h2 h3
    cases L with
    | nil => simp only [owedUp, List.length_nil]; omega
    | cons x L => simp [areOz] at h
  | cons e es ih =>
    intro L n B ho h h1 h2 h3
    cases L with
    | nil => simp [areOz] at h
    | cons x L =>
      simp only [areOz, Bool.and_eq_true] at h
      obtain ⟨hx, h⟩ := h
      rw [within_iff] at hx
      have hoe := ho e (by simp)
      simp only [List.length_cons] at h3 ⊢
      rw [owedUp]
      have key : ∀ n', -(B + 80) ≤ n' → n' ≤ B + 80 → -(B + 80 * ((es.length + 1 : Nat) : Int)) ≤ owedUp n' w es L ∧ owedUp n' w es L ≤ B + 80 * ((es.length + 1 : Nat) : Int) := fun n' g1 g2 => by
        have := ih (L := L) n' (B + 80) (fun e he => ho e (by simp [he])) h g1 g2 (by omega)
        omega
      apply key
      · split <;> split
        · rw [wr_in (n := n + x) (by omega) (by omega), wr_in (by omega) (by omega)]; omega
        · rw [wr_in (n := n - x) (by omega) (by omega)]; omega
        · rw [wr_in (n := n + x) (by omega) (by omega)]; omega
        · omega
      · split <;> split
        · rw [wr_in (n := n + x) (by omega) (by omega), wr_in (by omega) (by omega)]; omega
        · rw [wr_in (n := n - x) (by omega) (by omega)]; omega
        · rw [wr_in (n := n + x) (by omega) (by omega)]; omega
        · omega
theorem small_ow {S : Slate} {L : List Int} (hG : Good S) (h : areOz S.es L = true) : Small (owV S.es L) := fun j => by
  have := Small.ow (es := S.es) (Int.ofNat j) (L := L) 0 0 hG.oe h (by omega) (by omega) (by have := hG.e6; omega)
  have h6 := hG.e6
  unfold owV; omega
/-- The numbers of a group. -/
def nats (l : List Int) : List Nat := l.map Int.toNat
def GrpOk (l : List Int) : Prop := l = ints (nats l) ∧ (∀ j ∈ nats l, j < 6) ∧ (nats l).length < 1000
theorem bits_ok {m : Nat} (h : m < 64) : GrpOk (bitsOf m) := by
  have hmem : ∀ x ∈ bitsOf m, ∃ j : Nat, j < 6 ∧ x = Int.ofNat j := by
    intro x hx
    unfold bitsOf upto at hx
    rw [List.mem_flatMap] at hx
    obtain ⟨j, _, hj⟩ := hx
    unfold bitF at hj
    split at hj
    · rename_i hb
      simp only [List.mem_singleton] at hj
      refine ⟨j, ?_, hj⟩
      rcases Nat.lt_or_ge j 6 with h1 | h1
      · exact h1
      · exfalso
        have : bshr m j = 0 := bshr_0 (Nat.lt_of_lt_of_le h (Nat.pow_le_pow_right (n := 2) (i := 6) (by omega) h1))
        rw [this] at hb; simp [bmod] at hb
    · simp at hj
  refine ⟨?_, ?_, ?_⟩
  · unfold ints nats
    rw [List.map_map]
    symm
    have : (bitsOf m).map (Int.ofNat ∘ Int.toNat) = (bitsOf m).map id := by
      apply List.map_congr_left
      intro x hx
      obtain ⟨j, _, rfl⟩ := hmem x hx
      rfl
    rw [this, List.map_id]
  · intro j hj
    unfold nats at hj
    rw [List.mem_map] at hj
    obtain ⟨x, hx, rfl⟩ := hj
    obtain ⟨j, h1, rfl⟩ := hmem x hx
    exact h1
  · unfold nats; rw [List.length_map]; have := bitsOf_len m; omega
theorem grp_ok (a : Nat → Int) : ∀ (f w g : Nat), w < 64 → g < 64 → ∀ l ∈ grp a f w g, GrpOk l
  | 0, _, _, _, _ => by simp [grp]
  | f + 1, w, g, hw, hg => by
    intro l hl
    rw [grp] at hl
    by_cases h0 : w = 0
    · rw [if_pos h0] at hl; simp at hl
    · rw [if_neg h0] at hl
      obtain ⟨x, hx, hx6, hlt⟩ := findI_ok a h0 hw
      rw [hx] at hl
      simp only at hl
      have hg' := bor_64 hg hx6
      split at hl
      · simp only [List.mem_cons] at hl
        rcases hl with hl | hl
        · subst hl; exact bits_ok hg'
        · exact grp_ok a f _ _ (by omega) (by omega) l hl
      · exact grp_ok a f _ _ (by omega) hg' l hl
theorem groups_ok (a : Nat → Int) : ∀ l ∈ groupsA a, GrpOk l := grp_ok a 64 _ _ (openN_lt a) (by omega)
theorem grp_len (a : Nat → Int) : ∀ (f w g : Nat), (grp a f w g).length ≤ f
  | 0, _, _ => by simp [grp]
  | f + 1, w, g => by
    rw [grp]
    split
    · simp
    · split
      · simp
      · split
        · simp only [List.length_cons]; exact Nat.succ_le_succ (grp_len a f _ 0)
        · exact Nat.le_succ_of_le (grp_len a f _ _)
theorem settleF_len : ∀ (f : Nat) (a : Nat → Int) (gs : List Nat), (settleF f a gs).length ≤ f
  | 0, _, _ => by simp [settleF]
  | f + 1, a, gs => by
    rw [settleF]
    split
    · simp only [List.length_cons]; exact Nat.succ_le_succ (settleF_len f _ gs)
    · simp
def settleG (a : Nat → Int) (g : List Int) : List Pay := settleF 1000 a (nats g)
def settleA (a : Nat → Int) : List Pay := (groupsA a).flatMap (settleG a)
theorem l53 (a : Nat → Int) (m : Nat) (hs : Small a) (G : List (List Int)) (hG : ∀ l ∈ G, GrpOk l) (hGl : G.length ≤ 64) (r : Nat) (N : Nat) (O : List AObj) (p : Nat) (q : Nat → Nat) : ∀ (k i : Nat) (acc : List Pay), i + k = G.length → acc.length ≤ i * 1000 →
    lim tbl (.loop a53_l0 37 ⟨[8, 9, 24, 25, 26], [8], []⟩ [ownSl cP p acc, .vref (c7 a m), ownSl cL r G, i64 (Int.ofNat (lenOf G)), i64 (Int.ofNat i)]) ⟨N, O, roomP p (lenOf acc), roomC p q (lenOf acc)⟩
      = some (.exit 0, [ownSl cP p (app acc ((G.drop i).flatMap (settleG a)))], ⟨N, O, roomP p (lenOf (app acc ((G.drop i).flatMap (settleG a)))), roomC p q (lenOf (app acc ((G.drop i).flatMap (settleG a))))⟩) := by
  intro k
  induction k with
  | zero =>
    intro i acc hi ha
    rw [List.drop_eq_nil_of_le (by omega), List.flatMap_nil, app_nil, lim_loop]
    (try simp only [go_sem, ↓reduceIte, Nat.reduceAdd, Nat.reduceEqDiff, Nat.reduceLT, Nat.reduceLeDiff, Nat.reduceBEq, Int.reduceEq, Int.reduceLT, Int.reduceLE]); (repeat ((first | (rw [lt_yes]; rotate_left; (first | omega | (simp [lenOf, app]; omega) | (simp only [lenOf]; omega))) | (rw [lt_no]; rotate_left; (first | omega | (simp [lenOf, app]; omega) | (simp only [lenOf]; omega))) | (rw [idxA_at]; rotate_left; (first | omega | (simp [lenOf, app]; omega) | (simp only [lenOf]; omega))) | (rw [wr_up]; rotate_left; (first | omega | (simp [lenOf, app]; omega) | (simp only [lenOf]; omega))) | ((first | rw [drop_cI] | rw [drop_cE] | rw [drop_cS] | rw [drop_cP] | rw [drop_cR]); rotate_left; assumption)); try simp only [go_sem, ↓reduceIte, Nat.reduceAdd, Nat.reduceEqDiff, Nat.reduceLT, Nat.reduceLeDiff, Nat.reduceBEq, Int.reduceEq, Int.reduceLT, Int.reduceLE]))
  | succ k ih =>
    intro i acc hi ha
    have hlt : i < G.length := by omega
    obtain ⟨g, hg, hd⟩ := getElem_drop hlt
    have hd' := drop_cL hg
    obtain ⟨h1, h2, h3⟩ := hG g (List.mem_of_getElem? hg)
    have h91 := fun s => k91 a m (nats g) h2 h3 hs s
    rw [← h1] at h91
    change ∀ s, _ = some (_, [sl cP (settleG a g)], s) at h91
    have hl := settleF_len 1000 a (nats g)
    change (settleG a g).length ≤ 1000 at hl
    have happ := app_list (f := cP) (sz := 3) (fun _ => rfl) 24 p q N O acc (settleG a g) (by omega) (by omega)
    have h' := ih (i + 1) (app acc (settleG a g)) (by omega) (by simp [app]; omega)
    rw [hd, List.flatMap_cons, app_app, lim_loop]
    generalize settleG a g = V at h91 happ h' ⊢
    generalize hR : some (_, _, _) = R at h' ⊢
    (try simp only [go_sem, ↓reduceIte, Nat.reduceAdd, Nat.reduceEqDiff, Nat.reduceLT, Nat.reduceLeDiff, Nat.reduceBEq, Int.reduceEq, Int.reduceLT, Int.reduceLE]); (repeat ((first | rw [hd'] | simp only [h91] | rw [happ] | (rw [lt_yes]; rotate_left; (first | omega | (simp [lenOf, app]; omega) | (simp only [lenOf]; omega))) | (rw [lt_no]; rotate_left; (first | omega | (simp [lenOf, app]; omega) | (simp only [lenOf]; omega))) | (rw [idxA_at]; rotate_left; (first | omega | (simp [lenOf, app]; omega) | (simp only [lenOf]; omega))) | (rw [wr_up]; rotate_left; (first | omega | (simp [lenOf, app]; omega) | (simp only [lenOf]; omega))) | ((first | rw [drop_cI] | rw [drop_cE] | rw [drop_cS] | rw [drop_cP] | rw [drop_cR]); rotate_left; assumption)); try simp only [go_sem, ↓reduceIte, Nat.reduceAdd, Nat.reduceEqDiff, Nat.reduceLT, Nat.reduceLeDiff, Nat.reduceBEq, Int.reduceEq, Int.reduceLT, Int.reduceLE]))
    exact h'
/-- What Settle returns. -/
def settleP (S : Slate) (L : List Int) : List Pay := if playErr S L = 0 then settleA (playOw S L) else []
theorem k53 (S : Slate) (L : List Int) (s : St) : lim tbl (.call 53 [vSl S, sl cI L]) s = some (.ret, [.tup [sl cP (settleP S L), i64 (playErr S L)]], s) := by
  have h79 := fun s => k79 S L good_of_check s
  rw [lim_call tbl_53]
  by_cases he : playErr S L = 0
  · have hb : settleP S L = settleA (playOw S L) := by simp [settleP, he]
    have hc := play_check he
    have hs : Small (playOw S L) := by
      unfold playErr at he
      rw [if_neg (by simp [hc])] at he
      split at he
      · rename_i ho
        rw [playOw, if_pos ⟨hc, ho⟩]; exact small_ow (good_of_check hc) ho
      · cases he
    rw [hb, he]
    rw [he] at h79
    generalize playOw S L = a at h79 hs ⊢
    obtain ⟨N, O, p, q⟩ := s
    have h80 := k80 a (na N 1) (.cells (c6 a) :: O) p q
    obtain ⟨M', Q', hE, h81⟩ := k81 a (na N 1) p q (na (na N 1) 1) (.map true [] :: .cells (c6 a) :: O) (fun x hx => by
      simp only [List.mem_singleton] at hx; subst hx
      exact ⟨[], gO_new .., fun y hy => by simp at hy⟩)
    have hgl := grp_len a 64 (openN a) 0
    change (groupsA a).length ≤ 64 at hgl
    have h0 := l53 a (na N 1) hs (groupsA a) (groups_ok a) hgl p M' Q' (roomP p (lenOf (groupsA a))) (roomC p q (lenOf (groupsA a))) (groupsA a).length 0 [] (by omega) (by simp)
    rw [List.drop_zero, nil_app, ownSl_nil, show lenOf ([] : List Pay) = 0 from rfl, roomP_0, roomC_0, ofNat_0] at h0
    change _ = some (_, [ownSl cP _ (settleA a)], (⟨_, _, roomP _ (lenOf (settleA a)), roomC _ _ (lenOf (settleA a))⟩ : St)) at h0
    have ho := hE.old N O (by simp [na]) (((OldO.refl N O).push _).push _)
    generalize settleA a = V at h0 ⊢
    generalize groupsA a = G at h81 h0
    have hold : Ytlhfeiacigmliaa.old ⟨N, O, p, q⟩ ⟨M', Q', roomP (roomP p (lenOf G)) (lenOf V), roomC (roomP p (lenOf G)) (roomC p q (lenOf G)) (lenOf V)⟩ = true := by
      simp only [Ytlhfeiacigmliaa.old, decide_eq_true_eq]
      exact ⟨ho.1, ho.2, fun x hx => roomC_old2 p q _ _ x hx⟩
    obtain ⟨w, es, ss⟩ := S
    (try simp only [go_sem, ↓reduceIte, Nat.reduceAdd, Nat.reduceEqDiff, Nat.reduceLT, Nat.reduceLeDiff, Nat.reduceBEq, Int.reduceEq, Int.reduceLT, Int.reduceLE]); (repeat ((first | simp only [h79] | rw [h80] | rw [h81] | rw [h0] | rw [hold] | (rw [lt_yes]; rotate_left; (first | omega | (simp [lenOf, app]; omega) | (simp only [lenOf]; omega))) | (rw [lt_no]; rotate_left; (first | omega | (simp [lenOf, app]; omega) | (simp only [lenOf]; omega))) | (rw [idxA_at]; rotate_left; (first | omega | (simp [lenOf, app]; omega) | (simp only [lenOf]; omega))) | (rw [wr_up]; rotate_left; (first | omega | (simp [lenOf, app]; omega) | (simp only [lenOf]; omega))) | ((first | rw [drop_cI] | rw [drop_cE] | rw [drop_cS] | rw [drop_cP] | rw [drop_cR]); rotate_left; assumption)); try simp only [go_sem, ↓reduceIte, Nat.reduceAdd, Nat.reduceEqDiff, Nat.reduceLT, Nat.reduceLeDiff, Nat.reduceBEq, Int.reduceEq, Int.reduceLT, Int.reduceLE]))
  · have hb : settleP S L = [] := by simp [settleP, he]
    rw [hb]
    generalize playErr S L = e at h79 he ⊢
    generalize playOw S L = A at h79 ⊢
    obtain ⟨w, es, ss⟩ := S
    obtain ⟨N, O, p, q⟩ := s
    (try simp only [go_sem, ↓reduceIte, Nat.reduceAdd, Nat.reduceEqDiff, Nat.reduceLT, Nat.reduceLeDiff, Nat.reduceBEq, Int.reduceEq, Int.reduceLT, Int.reduceLE]); (repeat ((first | simp only [h79] | rw [eq_n he] | (rw [lt_yes]; rotate_left; (first | omega | (simp [lenOf, app]; omega) | (simp only [lenOf]; omega))) | (rw [lt_no]; rotate_left; (first | omega | (simp [lenOf, app]; omega) | (simp only [lenOf]; omega))) | (rw [idxA_at]; rotate_left; (first | omega | (simp [lenOf, app]; omega) | (simp only [lenOf]; omega))) | (rw [wr_up]; rotate_left; (first | omega | (simp [lenOf, app]; omega) | (simp only [lenOf]; omega))) | ((first | rw [drop_cI] | rw [drop_cE] | rw [drop_cS] | rw [drop_cP] | rw [drop_cR]); rotate_left; assumption)); try simp only [go_sem, ↓reduceIte, Nat.reduceAdd, Nat.reduceEqDiff, Nat.reduceLT, Nat.reduceLeDiff, Nat.reduceBEq, Int.reduceEq, Int.reduceLT, Int.reduceLE]))
end Go.Proofs.Ytlhfeiacigmliaa

/- The wash-house's soap: what the functions compute: are lists groups; small lists. -/
namespace Go.Proofs.Ytlhfeiacigmliaa
open Go
set_option maxRecDepth 10000

def orB : Nat → List Nat → Nat
  | b, [] => b
  | b, x :: l => orB (bor b (pw x)) l
theorem band_pw {a i : Nat} (h : a.testBit i = true) : band a (pw i) ≠ 0 := by
  intro h0
  have : (band a (pw i)).testBit i = true := by
    unfold band pw
    rw [Nat.testBit_and, Nat.testBit_two_pow_self, h]; rfl
  rw [h0] at this; simp at this
section
variable (n : Nat) (es : List Ent) (ss : List Say) (L : List Int) (hn : n ≤ 6) (hE : es.length < 1000000) (hL : L.length = es.length) (G : List (List Int))
include hn hE hL
/-- These are groups, of just these women. -/
def GrpsOk (T : Nat → Int) : Nat → List Nat → Prop
  | left, [] => left = 0
  | left, g :: gs => g ≠ 0 ∧ band g left = g ∧ T g = 0 ∧ GrpsOk T (bsub left g) gs
end
end Go.Proofs.Ytlhfeiacigmliaa

/- The wash-house's soap: what the functions compute: the document's first examples. -/
namespace Go.Proofs.Ytlhfeiacigmliaa
open Go
set_option maxRecDepth 10000

@[go_sem] theorem repl_12 (a : AVal) : List.replicate 12 a = [a, a, a, a, a, a, a, a, a, a, a, a] := (rfl)
/-- A function that forgets takes its arguments in their normal form. -/
theorem call_norm {T : Nat → Option AFun} {k : Nat} {F : AFun} (h : T k = some F) {sz : Nat} (hg : F.gc = some sz) {args args' : List AVal} (hn : norms args = norms args') (s : St) (hi : isIce (some sz) = false := by rfl) : lim T (.call k args) s = lim T (.call k args') s := by
  have hi' : isIce F.gc = false := by rw [hg]; exact hi
  rw [lim_call h hi', lim_call h hi', hg, frameV_some, frameV_some, hn]
def fourS (k : Nat) : Slate := ⟨4, [⟨0, 1, ⟨2, 3⟩⟩, ⟨1, 2, ⟨2, 2⟩⟩, ⟨3, 2, ⟨1, 4⟩⟩], ([⟨2, ⟨-4, -3⟩⟩, ⟨1, ⟨-1, -1⟩⟩, ⟨0, ⟨2, 2⟩⟩] : List Say).take k⟩
@[go_sem] theorem k72 (a b : Int) (s : St) : lim tbl (.call 72 [i64 a, i64 b]) s = some (.ret, [.agg [i64 a, i64 b]], s) := by
  rw [lim_call tbl_72]; obtain ⟨N, O, p, q⟩ := s
  (try simp only [go_sem, ↓reduceIte, Nat.reduceAdd, Nat.reduceEqDiff, Nat.reduceLT, Nat.reduceLeDiff, Nat.reduceBEq, Int.reduceEq, Int.reduceLT, Int.reduceLE]); (repeat ((first | (rw [lt_yes]; rotate_left; (first | omega | (simp [lenOf, app]; omega) | (simp only [lenOf]; omega))) | (rw [lt_no]; rotate_left; (first | omega | (simp [lenOf, app]; omega) | (simp only [lenOf]; omega))) | (rw [idxA_at]; rotate_left; (first | omega | (simp [lenOf, app]; omega) | (simp only [lenOf]; omega))) | (rw [wr_up]; rotate_left; (first | omega | (simp [lenOf, app]; omega) | (simp only [lenOf]; omega))) | ((first | rw [drop_cI] | rw [drop_cE] | rw [drop_cS] | rw [drop_cP] | rw [drop_cR]); rotate_left; assumption)); try simp only [go_sem, ↓reduceIte, Nat.reduceAdd, Nat.reduceEqDiff, Nat.reduceLT, Nat.reduceLeDiff, Nat.reduceBEq, Int.reduceEq, Int.reduceLT, Int.reduceLE]))
section
variable (a b d e f g h i j : AVal) (pm : Perm)
theorem hi9_0 : sliceHi 3 (.vsl [a, b, d, e, f, g, h, i, j] 3 pm) (i64 0) = some (.vsl [] 0 .no) := rfl
theorem hi9_1 : sliceHi 3 (.vsl [a, b, d, e, f, g, h, i, j] 3 pm) (i64 1) = some (.vsl [a, b, d] 1 .no) := rfl
theorem hi9_3 : sliceHi 3 (.vsl [a, b, d, e, f, g, h, i, j] 3 pm) (i64 3) = some (.vsl [a, b, d, e, f, g, h, i, j] 3 .no) := rfl
end
theorem k71_0 (s : St) : lim tbl (.call 71 [i64 0]) s = some (.ret, [vSl (fourS 0)], s) := by
  rw [lim_call tbl_71]; obtain ⟨N, O, p, q⟩ := s
  (try simp only [go_sem, ↓reduceIte, Nat.reduceAdd, Nat.reduceEqDiff, Nat.reduceLT, Nat.reduceLeDiff, Nat.reduceBEq, Int.reduceEq, Int.reduceLT, Int.reduceLE]); (repeat ((first | rw [hi9_0] | (rw [lt_yes]; rotate_left; (first | omega | (simp [lenOf, app]; omega) | (simp only [lenOf]; omega))) | (rw [lt_no]; rotate_left; (first | omega | (simp [lenOf, app]; omega) | (simp only [lenOf]; omega))) | (rw [idxA_at]; rotate_left; (first | omega | (simp [lenOf, app]; omega) | (simp only [lenOf]; omega))) | (rw [wr_up]; rotate_left; (first | omega | (simp [lenOf, app]; omega) | (simp only [lenOf]; omega))) | ((first | rw [drop_cI] | rw [drop_cE] | rw [drop_cS] | rw [drop_cP] | rw [drop_cR]); rotate_left; assumption)); try simp only [go_sem, ↓reduceIte, Nat.reduceAdd, Nat.reduceEqDiff, Nat.reduceLT, Nat.reduceLeDiff, Nat.reduceBEq, Int.reduceEq, Int.reduceLT, Int.reduceLE]))
  rfl
theorem k71_1 (s : St) : lim tbl (.call 71 [i64 1]) s = some (.ret, [vSl (fourS 1)], s) := by
  rw [lim_call tbl_71]; obtain ⟨N, O, p, q⟩ := s
  (try simp only [go_sem, ↓reduceIte, Nat.reduceAdd, Nat.reduceEqDiff, Nat.reduceLT, Nat.reduceLeDiff, Nat.reduceBEq, Int.reduceEq, Int.reduceLT, Int.reduceLE]); (repeat ((first | rw [hi9_1] | (rw [lt_yes]; rotate_left; (first | omega | (simp [lenOf, app]; omega) | (simp only [lenOf]; omega))) | (rw [lt_no]; rotate_left; (first | omega | (simp [lenOf, app]; omega) | (simp only [lenOf]; omega))) | (rw [idxA_at]; rotate_left; (first | omega | (simp [lenOf, app]; omega) | (simp only [lenOf]; omega))) | (rw [wr_up]; rotate_left; (first | omega | (simp [lenOf, app]; omega) | (simp only [lenOf]; omega))) | ((first | rw [drop_cI] | rw [drop_cE] | rw [drop_cS] | rw [drop_cP] | rw [drop_cR]); rotate_left; assumption)); try simp only [go_sem, ↓reduceIte, Nat.reduceAdd, Nat.reduceEqDiff, Nat.reduceLT, Nat.reduceLeDiff, Nat.reduceBEq, Int.reduceEq, Int.reduceLT, Int.reduceLE]))
  rfl
theorem k71_3 (s : St) : lim tbl (.call 71 [i64 3]) s = some (.ret, [vSl (fourS 3)], s) := by
  rw [lim_call tbl_71]; obtain ⟨N, O, p, q⟩ := s
  (try simp only [go_sem, ↓reduceIte, Nat.reduceAdd, Nat.reduceEqDiff, Nat.reduceLT, Nat.reduceLeDiff, Nat.reduceBEq, Int.reduceEq, Int.reduceLT, Int.reduceLE]); (repeat ((first | rw [hi9_3] | (rw [lt_yes]; rotate_left; (first | omega | (simp [lenOf, app]; omega) | (simp only [lenOf]; omega))) | (rw [lt_no]; rotate_left; (first | omega | (simp [lenOf, app]; omega) | (simp only [lenOf]; omega))) | (rw [idxA_at]; rotate_left; (first | omega | (simp [lenOf, app]; omega) | (simp only [lenOf]; omega))) | (rw [wr_up]; rotate_left; (first | omega | (simp [lenOf, app]; omega) | (simp only [lenOf]; omega))) | ((first | rw [drop_cI] | rw [drop_cE] | rw [drop_cS] | rw [drop_cP] | rw [drop_cR]); rotate_left; assumption)); try simp only [go_sem, ↓reduceIte, Nat.reduceAdd, Nat.reduceEqDiff, Nat.reduceLT, Nat.reduceLeDiff, Nat.reduceBEq, Int.reduceEq, Int.reduceLT, Int.reduceLE]))
  rfl
theorem x52 (s : St) : lim tbl (.call 52 [vSl (fourS 0), .vsl [i64 3, i64 2, i64 1] 3 .full]) s = some (.ret, [.tup [sl cI [3, -1, -3, 1], i64 0]], s) := by
  have h1 : playL (fourS 0) [3, 2, 1] = [3, -1, -3, 1] := by kernel_rfl
  have h2 : playErr (fourS 0) [3, 2, 1] = 0 := by kernel_rfl
  have h := k52 (fourS 0) [3, 2, 1] good_of_check s
  rw [h1, h2] at h
  rw [← h]
  exact call_norm tbl_52 rfl (by kernel_rfl) s
theorem x23 (s : St) : lim tbl (.call 23 [vSl (fourS 1)]) s = some (.ret, [.tup [.vsl [i64 2, i64 3, i64 (-1), i64 0, i64 (-4), i64 (-3), i64 1, i64 2] 4 .no, i64 0]], s) := by
  have h1 : boundsL (fourS 1) = [⟨2, 3⟩, ⟨-1, 0⟩, ⟨-4, -3⟩, ⟨1, 2⟩] := by kernel_rfl
  have h2 : askedErr (fourS 1) = 0 := by kernel_rfl
  have h := k23 (fourS 1) s
  rw [h1, h2] at h
  exact h
theorem x25 (s : St) : lim tbl (.call 25 [vSl (fourS 0)]) s = some (.ret, [.tup [sl cI [2, 3, 1, 2], i64 0]], s) := by
  have h1 : (boundsL (fourS 0)).map owesF = [2, 3, 1, 2] := by kernel_rfl
  have h2 : askedErr (fourS 0) = 0 := by kernel_rfl
  have h := k25 (fourS 0) s
  rw [h1, h2] at h
  exact h
theorem x53 (s : St) : lim tbl (.call 53 [vSl (fourS 0), .vsl [i64 2, i64 2, i64 4] 3 .full]) s = some (.ret, [.tup [sl cP [⟨2, 0, 2⟩, ⟨2, 3, 4⟩], i64 0]], s) := by
  have h1 : settleP (fourS 0) [2, 2, 4] = [⟨2, 0, 2⟩, ⟨2, 3, 4⟩] := by kernel_rfl
  have h2 : playErr (fourS 0) [2, 2, 4] = 0 := by kernel_rfl
  have h := k53 (fourS 0) [2, 2, 4] s
  rw [h1, h2] at h
  rw [← h]
  exact call_norm tbl_53 rfl (by kernel_rfl) s
theorem x30 (s : St) : lim tbl (.call 30 [vSl (fourS 0), .vsl [i64 3, i64 2, i64 1] 3 .full]) s = some (.ret, [.tup [sl cL [[0, 2], [1, 3]], i64 0]], s) := by
  have h1 : groupsP (fourS 0) [3, 2, 1] = [[0, 2], [1, 3]] := by kernel_rfl
  have h2 : playErr (fourS 0) [3, 2, 1] = 0 := by kernel_rfl
  have h := k30 (fourS 0) [3, 2, 1] s
  rw [h1, h2] at h
  rw [← h]
  exact call_norm tbl_30 rfl (by kernel_rfl) s
theorem x38 (s : St) : lim tbl (.call 38 [vSl (fourS 0)]) s = some (.ret, [.tup [.agg [i64 2, i64 3], i64 0]], s) := by
  have h1 : fewestP (fourS 0) = (2, 3) := by kernel_rfl
  have h2 : askedErr (fourS 0) = 0 := by kernel_rfl
  have h := k38 (fourS 0) s
  rw [h1, h2] at h
  exact h
theorem x40 (s : St) : lim tbl (.call 40 [vSl (fourS 3)]) s = some (.ret, [.tup [i64 2, i64 0]], s) := by
  have h1 : firstA (fourS 3) = 2 := by kernel_rfl
  have h2 : firstE (fourS 3) = 0 := by kernel_rfl
  have h := k40 (fourS 3) s
  rw [h1, h2] at h
  exact h
theorem x41 (s : St) : lim tbl (.call 41 [vSl (fourS 3)]) s = some (.ret, [.tup [sl cI [1], i64 0]], s) := by
  have h1 : leaveL (fourS 3) = [1] := by kernel_rfl
  have h2 : checkSlate (fourS 3) = 0 := by kernel_rfl
  have h := k41 (fourS 3) s
  rw [h1, h2] at h
  exact h
theorem x43 (a : List Int) (cs : List AVal) (n : Nat) (h : sl cI a = .vsl cs n .no) (hn : norms cs = cs) (hl : a.length < 1000) (s : St) : lim tbl (.call 43 [sl cI a, .vsl cs n .full]) s = some (.ret, [.bool true], s) := by
  have h1 := k43 a a (by omega) s
  have h2 : sameL a a = true := by simp [sameL]
  rw [h2] at h1
  rw [← h1]
  refine call_norm tbl_43 rfl ?_ s
  rw [h]; simp [norms, AVal.norm, hn]
/-- The document's first examples are returned. -/
theorem k22 (s : St) : lim tbl (.call 22 []) s = some (.ret, [.bool true], s) := by
  have a1 := fun s => x43 [3, -1, -3, 1] [i64 3, i64 (-1), i64 (-3), i64 1] 4 rfl rfl (by simp) s
  have a2 := fun s => x43 [2, 3, 1, 2] [i64 2, i64 3, i64 1, i64 2] 4 rfl rfl (by simp) s
  have a3 := fun s => x43 [1] [i64 1] 1 rfl rfl (by simp) s
  have l2 : lenOf ([⟨2, 0, 2⟩, ⟨2, 3, 4⟩] : List Pay) = 2 := rfl
  have l3 : lenOf ([[0, 2], [1, 3]] : List (List Int)) = 2 := rfl
  rw [lim_call tbl_22]; obtain ⟨N, O, p, q⟩ := s
  (try simp only [go_sem, ↓reduceIte, Nat.reduceAdd, Nat.reduceEqDiff, Nat.reduceLT, Nat.reduceLeDiff, Nat.reduceBEq, Int.reduceEq, Int.reduceLT, Int.reduceLE]); (repeat ((first | simp only [k71_0, k71_1, k71_3] | simp only [x52, x23, x25, x53, x30, x38, x40, x41] | simp only [a1, a2, a3] | rw [l2] | rw [l3] | (rw [lt_yes]; rotate_left; (first | omega | (simp [lenOf, app]; omega) | (simp only [lenOf]; omega))) | (rw [lt_no]; rotate_left; (first | omega | (simp [lenOf, app]; omega) | (simp only [lenOf]; omega))) | (rw [idxA_at]; rotate_left; (first | omega | (simp [lenOf, app]; omega) | (simp only [lenOf]; omega))) | (rw [wr_up]; rotate_left; (first | omega | (simp [lenOf, app]; omega) | (simp only [lenOf]; omega))) | ((first | rw [drop_cI] | rw [drop_cE] | rw [drop_cS] | rw [drop_cP] | rw [drop_cR]); rotate_left; assumption)); try simp only [go_sem, ↓reduceIte, Nat.reduceAdd, Nat.reduceEqDiff, Nat.reduceLT, Nat.reduceLeDiff, Nat.reduceBEq, Int.reduceEq, Int.reduceLT, Int.reduceLE]))
end Go.Proofs.Ytlhfeiacigmliaa

/- The wash-house's soap, plain law: all ounces are gone through by the program as by the document; which sayings are right together. -/
namespace Go.Proofs.Ytlhfeiacigmliaa
open Go
set_option maxRecDepth 10000

theorem mem_rngUp {x : Int} : ∀ {m : Nat} {v : Int}, x ∈ rngUp v m ↔ v ≤ x ∧ x < v + m
  | 0, v => by simp [rngUp]
  | m + 1, v => by
    rw [rngUp, List.mem_cons, mem_rngUp]
    push_cast
    omega
theorem mem_ozs : ∀ {es : List Ent} {L : List Int}, OkE es → (L ∈ ozs es ↔ areOz es L = true)
  | [], L, _ => by
    cases L with
    | nil => simp [ozs, areOz]
    | cons a L => simp [ozs, areOz]
  | e :: es, L, h => by
    have ih := fun L => mem_ozs (es := es) (L := L) fun e he => h e (by simp [he])
    have he := h e (by simp)
    rw [ozs, List.mem_flatMap]
    constructor
    · rintro ⟨v, hv, hL⟩
      rw [List.mem_map] at hL
      obtain ⟨L', h1, rfl⟩ := hL
      rw [mem_rngUp] at hv
      simp only [areOz, Bool.and_eq_true, within_iff]
      refine ⟨?_, (ih L').1 h1⟩
      unfold szN at hv; omega
    · intro hL
      cases L with
      | nil => simp [areOz] at hL
      | cons v L =>
        simp only [areOz, Bool.and_eq_true, within_iff] at hL
        refine ⟨v, ?_, List.mem_map.2 ⟨L, (ih L).2 hL.2, rfl⟩⟩
        rw [mem_rngUp]; unfold szN; omega
theorem nth_areOz : ∀ {es : List Ent} (_ : OkE es) (n : Nat), areOz es (nthRef es n) = true
  | [], _, n => rfl
  | e :: es, h, n => by
    have he := h e (by simp)
    have hp := szN_pos he.2.1
    rw [nthRef]
    simp only [areOz, Bool.and_eq_true, within_iff]
    refine ⟨?_, nth_areOz (fun e he => h e (by simp [he])) _⟩
    have hm : n % szN e.oz.lo e.oz.hi < szN e.oz.lo e.oz.hi := Nat.mod_lt _ (Nat.pos_of_ne_zero hp)
    unfold bmod
    simp only [Int.ofNat_eq_natCast]
    have : ((szN e.oz.lo e.oz.hi : Nat) : Int) = e.oz.hi - e.oz.lo + 1 := by unfold szN; omega
    omega
end Go.Proofs.Ytlhfeiacigmliaa

/- The wash-house's soap, plain law: what is asked of all truths is as the document says. -/
namespace Go.Proofs.Ytlhfeiacigmliaa
open Go
set_option maxRecDepth 10000

end Go.Proofs.Ytlhfeiacigmliaa

/- The plain law of groups: the most groups, as the program counts them, are as many as the document's. -/
namespace Go.Proofs.Ytlhfeiacigmliaa
open Go
set_option maxRecDepth 100000

def term (a : Nat → Int) (w i : Nat) : Int := if w.testBit i then a i else 0
def ps (a : Nat → Int) (w : Nat) : Int := term a w 0 + term a w 1 + term a w 2 + term a w 3 + term a w 4 + term a w 5
def Sb (g w : Nat) : Prop := ∀ i, g.testBit i = true → w.testBit i = true
def Dj (u v : Nat) : Prop := ∀ i, u.testBit i = true → v.testBit i = false
theorem bor_t (a b i : Nat) : (bor a b).testBit i = (a.testBit i || b.testBit i) := by unfold bor; rw [Nat.testBit_or]
theorem bsub_t (a b i : Nat) : (bsub a b).testBit i = (a.testBit i && !b.testBit i) := by
  unfold bsub; rw [Nat.testBit_and, Nat.testBit_xor]
  cases a.testBit i <;> cases b.testBit i <;> rfl
theorem band_t (a b i : Nat) : (band a b).testBit i = (a.testBit i && b.testBit i) := by unfold band; rw [Nat.testBit_and]
theorem pw_t (i j : Nat) : (pw i).testBit j = decide (i = j) := by unfold pw; rw [Nat.testBit_two_pow]
theorem bit_iff (w i : Nat) : bmod (bshr w i) 2 = 1 ↔ w.testBit i = true := by
  rw [Nat.testBit_eq_decide_div_mod_eq, decide_eq_true_eq]
  unfold bmod bshr; rw [Nat.shiftRight_eq_div_pow]
theorem sb_band {g w : Nat} (h : Sb g w) : band g w = g := by
  apply Nat.eq_of_testBit_eq
  intro i
  rw [band_t]
  cases hg : g.testBit i with
  | false => rfl
  | true => rw [h i hg]; rfl
theorem band_sb {g w : Nat} (h : band g w = g) : Sb g w := by
  intro i hi
  rw [← h, band_t, Bool.and_eq_true] at hi
  exact hi.2
theorem Sb.refl (w : Nat) : Sb w w := fun _ h => h
theorem Sb.trans {a b c : Nat} (h : Sb a b) (h' : Sb b c) : Sb a c := fun i hi => h' i (h i hi)
theorem sb_sub (w g : Nat) : Sb (bsub w g) w := fun i h => by rw [bsub_t, Bool.and_eq_true] at h; exact h.1
theorem Sb.le {a b : Nat} (h : Sb a b) : a ≤ b := by rw [← sb_band h]; exact Nat.and_le_right
theorem sb_pw {w i : Nat} (h : w.testBit i = true) : Sb (pw i) w := fun j hj => by rw [pw_t, decide_eq_true_eq] at hj; subst hj; exact h
theorem sub_sub {w u : Nat} (h : Sb u w) : bsub w (bsub w u) = u := by
  apply Nat.eq_of_testBit_eq
  intro i
  rw [bsub_t, bsub_t]
  have := h i
  cases hw : w.testBit i <;> cases hu : u.testBit i <;> simp_all
theorem sub_comm (w g g' : Nat) : bsub (bsub w g) g' = bsub (bsub w g') g := by
  apply Nat.eq_of_testBit_eq
  intro i
  simp only [bsub_t]
  cases w.testBit i <;> cases g.testBit i <;> cases g'.testBit i <;> rfl
theorem sub_or (w g g' : Nat) : bsub w (bor g g') = bsub (bsub w g) g' := by
  apply Nat.eq_of_testBit_eq
  intro i
  simp only [bsub_t, bor_t]
  cases w.testBit i <;> cases g.testBit i <;> cases g'.testBit i <;> rfl
theorem ne_bit {w : Nat} (h : w ≠ 0) : ∃ i, w.testBit i = true := Nat.exists_testBit_of_ne_zero h
theorem bit_ne {w i : Nat} (h : w.testBit i = true) : w ≠ 0 := by intro h0; subst h0; simp at h
theorem bit_lt6 {w i : Nat} (hw : w < 64) (h : w.testBit i = true) : i < 6 := by
  rcases Nat.lt_or_ge i 6 with h1 | h1
  · exact h1
  · rw [Nat.testBit_lt_two_pow (Nat.lt_of_lt_of_le hw (Nat.pow_le_pow_right (n := 2) (i := 6) (by omega) h1))] at h; cases h
theorem sub_lt_bit {w i : Nat} (h : w.testBit i = true) : bsub w (pw i) < w := bsub_lt ((bit_iff w i).2 h)
theorem sub_lt {w g : Nat} (h0 : g ≠ 0) (h : Sb g w) : bsub w g < w := by
  have hle : bsub w g ≤ w := (sb_sub w g).le
  rcases Nat.lt_or_ge (bsub w g) w with h1 | h1
  · exact h1
  · exfalso
    have he : bsub w g = w := by omega
    obtain ⟨i, hi⟩ := ne_bit h0
    have h2 : (bsub w g).testBit i = false := by rw [bsub_t, hi]; simp
    rw [he, h i hi] at h2; cases h2
theorem term_sub (a : Nat → Int) {w g : Nat} (h : Sb g w) (i : Nat) : term a (bsub w g) i = term a w i - term a g i := by
  unfold term
  rw [bsub_t]
  have := h i
  cases hw : w.testBit i <;> cases hg : g.testBit i <;> simp_all
theorem term_or (a : Nat → Int) {u v : Nat} (h : Dj u v) (i : Nat) : term a (bor u v) i = term a u i + term a v i := by
  unfold term
  rw [bor_t]
  have := h i
  cases hw : u.testBit i <;> cases hg : v.testBit i <;> simp_all
theorem ps_sub (a : Nat → Int) {w g : Nat} (h : Sb g w) : ps a (bsub w g) = ps a w - ps a g := by
  unfold ps; simp only [term_sub a h]; omega
theorem ps_or (a : Nat → Int) {u v : Nat} (h : Dj u v) : ps a (bor u v) = ps a u + ps a v := by
  unfold ps; simp only [term_or a h]; omega
theorem ps_zero (a : Nat → Int) : ps a 0 = 0 := by simp [ps, term]
theorem ps_congr {a b : Nat → Int} {w : Nat} (h : ∀ i, i < 6 → w.testBit i = true → a i = b i) : ps a w = ps b w := by
  have ht : ∀ i, i < 6 → term a w i = term b w i := by
    intro i hi
    unfold term
    cases hw : w.testBit i with
    | false => rfl
    | true => simp [h i hi hw]
  unfold ps
  rw [ht 0 (by omega), ht 1 (by omega), ht 2 (by omega), ht 3 (by omega), ht 4 (by omega), ht 5 (by omega)]
theorem term_small {a : Nat → Int} (hs : Small a) (w i : Nat) : -1000000000 ≤ term a w i ∧ term a w i ≤ 1000000000 := by
  unfold term
  have := hs i
  split <;> omega
theorem sumA_ps {a : Nat → Int} (hs : Small a) (w : Nat) : sumA a w = ps a w := by
  have step : ∀ (n : Int) (i : Nat), -10000000000 ≤ n → n ≤ 10000000000 → (if bmod (bshr w i) 2 = 1 then wr .i64 (Int.add n (a i)) else n) = n + term a w i := by
    intro n i h1 h2
    have := hs i
    unfold term
    by_cases hb : w.testBit i = true
    · rw [if_pos ((bit_iff w i).2 hb), if_pos hb, fold_add, wr_in (by omega) (by omega)]
    · rw [if_neg (fun h => hb ((bit_iff w i).1 h)), if_neg hb]; omega
  have t0 := term_small hs w 0
  have t1 := term_small hs w 1
  have t2 := term_small hs w 2
  have t3 := term_small hs w 3
  have t4 := term_small hs w 4
  have t5 := term_small hs w 5
  unfold sumA
  simp only [sumUp, Nat.zero_add, Nat.reduceAdd]
  rw [step 0 0 (by omega) (by omega), step _ 1 (by omega) (by omega), step _ 2 (by omega) (by omega), step _ 3 (by omega) (by omega), step _ 4 (by omega) (by omega), step _ 5 (by omega) (by omega)]
  unfold ps
  omega
theorem bits_list : ∀ w, w < 64 → bitsOf w = ints ((List.range 6).filter w.testBit) := by
  have h : ((List.range 64).all fun w => bitsOf w == ints ((List.range 6).filter w.testBit)) = true := by kernel_rfl
  intro w hw
  rw [List.all_eq_true] at h
  exact eq_of_beq (h w (by simpa using hw))
def psl (a : Nat → Int) (w : Nat) : List Nat → Int
  | [] => 0
  | i :: l => term a w i + psl a w l
theorem togL_psl {es : List Ent} {L : List Int} (hs : Small (owV es L)) (w : Nat) (l : List Nat) : ∀ n : Int, -10000000000 + 1000000000 * (l.length : Int) ≤ n → n ≤ 10000000000 - 1000000000 * (l.length : Int) →
    togL es L n (ints (l.filter w.testBit)) = n + psl (owV es L) w l := by
  induction l with
  | nil => intro n _ _; simp [togL, psl, ints]
  | cons i l ih =>
    intro n h1 h2
    have hi := hs i
    simp only [List.length_cons, Int.natCast_add, Int.natCast_one] at h1 h2
    rw [psl]
    by_cases hb : w.testBit i = true
    · have hw : wr .i64 (Int.add n (owedUp 0 (Int.ofNat i) es L)) = n + owV es L i := by
        have he : owedUp 0 (Int.ofNat i) es L = owV es L i := rfl
        rw [he, fold_add]
        exact wr_in (by omega) (by omega)
      rw [List.filter_cons_of_pos hb]
      have hc : ints (i :: l.filter w.testBit) = Int.ofNat i :: ints (l.filter w.testBit) := rfl
      rw [hc, togL, hw, ih _ (by omega) (by omega)]
      unfold term; rw [if_pos hb]; omega
    · rw [List.filter_cons_of_neg hb, ih n (by omega) (by omega)]
      unfold term; rw [if_neg hb]; omega
theorem togA_ps {es : List Ent} {L : List Int} (hs : Small (owV es L)) {w : Nat} (hw : w < 64) : togA es L w = ps (owV es L) w := by
  unfold togA
  rw [bits_list w hw, togL_psl hs w (List.range 6) 0 (by simp) (by simp)]
  show _ + psl _ _ [0, 1, 2, 3, 4, 5] = _
  simp only [psl, ps]
  omega

inductive Part (a : Nat → Int) : Nat → Nat → Prop
  | nil : Part a 0 0
  | cons {w g n : Nat} (h0 : g ≠ 0) (hs : Sb g w) (hz : ps a g = 0) (h : Part a (bsub w g) n) : Part a w (n + 1)
theorem Part.sum {a : Nat → Int} {w n : Nat} (h : Part a w n) : ps a w = 0 := by
  induction h with
  | nil => exact ps_zero a
  | cons h0 hs hz h ih => rw [ps_sub a hs] at ih; omega
theorem Part.congr {a b : Nat → Int} {w n : Nat} (h : Part a w n) (hab : ∀ i, i < 6 → w.testBit i = true → a i = b i) : Part b w n := by
  induction h with
  | nil => exact .nil
  | cons h0 hs hz h ih =>
    exact .cons h0 hs (by rw [← ps_congr fun i hi hg => hab i hi (hs i hg)]; exact hz) (ih fun i hi hg => hab i hi (sb_sub _ _ i hg))
theorem Part.extract {a : Nat → Int} {w n : Nat} (h : Part a w n) : ∀ f, w.testBit f = true → ∃ g m, n = m + 1 ∧ Sb g w ∧ g.testBit f = true ∧ ps a g = 0 ∧ Part a (bsub w g) m := by
  induction h with
  | nil => intro f hf; simp at hf
  | @cons w g n h0 hs hz h ih =>
    intro f hf
    by_cases hg : g.testBit f = true
    · exact ⟨g, n, rfl, hs, hg, hz, h⟩
    · have hf' : (bsub w g).testBit f = true := by rw [bsub_t, hf]; simp [hg]
      obtain ⟨g', m, rfl, h1, h2, h3, h4⟩ := ih f hf'
      refine ⟨g', m + 1, rfl, h1.trans (sb_sub w g), h2, h3, .cons h0 ?_ hz ?_⟩
      · intro i hi
        rw [bsub_t, hs i hi]
        cases hi' : g'.testBit i with
        | false => rfl
        | true =>
          have := h1 i hi'
          rw [bsub_t, hi] at this; simp at this
      · rw [sub_comm]; exact h4
def pc (w : Nat) : Nat := (bitsOf w).length
theorem pc_facts : ∀ w, w < 64 → pc w ≤ 6 ∧ ∀ g, g < 64 → g ≠ 0 → band g w = g → pc (bsub w g) + 1 ≤ pc w := by
  have h : ((List.range 64).all fun w => decide (pc w ≤ 6) && (List.range 64).all fun g => decide (g = 0) || (!decide (band g w = g) || decide (pc (bsub w g) + 1 ≤ pc w))) = true := by kernel_rfl
  intro w hw
  rw [List.all_eq_true] at h
  have h1 := h w (by simpa using hw)
  rw [Bool.and_eq_true, decide_eq_true_eq] at h1
  refine ⟨h1.1, fun g hg h2 h3 => ?_⟩
  have h4 := h1.2
  rw [List.all_eq_true] at h4
  have h5 := h4 g (by simpa using hg)
  simpa [h2, h3] using h5
theorem Part.le {a : Nat → Int} {w n : Nat} (h : Part a w n) : w < 64 → n ≤ pc w := by
  induction h with
  | nil => intro _; omega
  | @cons w g n h0 hs hz h ih =>
    intro hw
    have h1 := ih (Nat.lt_of_le_of_lt (sb_sub w g).le hw)
    have h2 := (pc_facts w hw).2 g (Nat.lt_of_le_of_lt hs.le hw) h0 (sb_band hs)
    omega

theorem most_part {a : Nat → Int} (hs : Small a) : ∀ w, w < 64 → ∃ u, Sb u w ∧ Part a u (mostN a w) ∧ (ps a w = 0 → u = w) := by
  intro w
  induction w using Nat.strongRecOn with
  | _ w ih =>
    intro hw
    by_cases h0 : w = 0
    · subst h0
      exact ⟨0, Sb.refl 0, by rw [mostN_eq, if_pos rfl]; exact .nil, fun _ => rfl⟩
    · have key : ∃ u, Sb u w ∧ u ≠ w ∧ Part a u (mostUp (mostN a) w 0 0 6) := by
        rcases mostUp_att (mostN a) w 6 0 0 with h1 | ⟨j, _, h2, h3, h4⟩
        · rw [h1]; exact ⟨0, fun i hi => by simp at hi, fun h => h0 h.symm, .nil⟩
        · have hb := (bit_iff w j).1 h3
          have hlt := sub_lt_bit hb
          obtain ⟨u, g1, g2, _⟩ := ih _ hlt (by omega)
          refine ⟨u, g1.trans (sb_sub _ _), fun h => ?_, by rw [← h4]; exact g2⟩
          subst h
          have := g1 j hb
          rw [bsub_t, pw_t] at this; simp at this
      obtain ⟨u, k1, k2, k3⟩ := key
      rw [mostN_eq, if_neg h0, sumA_ps hs]
      by_cases hz : ps a w = 0
      · rw [if_pos hz]
        refine ⟨w, Sb.refl w, ?_, fun _ => rfl⟩
        refine .cons (g := bsub w u) ?_ (sb_sub w u) ?_ ?_
        · intro h
          apply k2
          have := sub_sub k1
          rw [h] at this
          rw [← this]
          apply Nat.eq_of_testBit_eq
          intro i; rw [bsub_t]; simp
        · rw [ps_sub a k1, hz, k3.sum]; omega
        · rw [sub_sub k1]; exact k3
      · rw [if_neg hz]
        exact ⟨u, k1, k3, fun h => absurd h hz⟩
theorem most_pos {a : Nat → Int} (hs : Small a) {g : Nat} (h0 : g ≠ 0) (hz : ps a g = 0) : 1 ≤ mostN a g := by
  rw [mostN_eq, if_neg h0, sumA_ps hs, if_pos hz]; omega
theorem most_super {a : Nat → Int} (hs : Small a) {u : Nat} (hu : ps a u = 0) : ∀ v, v < 64 → Dj u v → mostN a u + mostN a v ≤ mostN a (bor u v) := by
  intro v
  induction v using Nat.strongRecOn with
  | _ v ih =>
    intro hv hd
    by_cases h0 : v = 0
    · subst h0
      have : bor u 0 = u := by unfold bor; exact Nat.or_zero u
      rw [this, mostN_eq a 0, if_pos rfl]; omega
    · have key : ∃ j, j < 6 ∧ v.testBit j = true ∧ mostUp (mostN a) v 0 0 6 ≤ mostN a (bsub v (pw j)) := by
        rcases mostUp_att (mostN a) v 6 0 0 with h1 | ⟨j, _, h2, h3, h4⟩
        · obtain ⟨j, hj, hb⟩ := has_bit h0 hv
          exact ⟨j, hj, (bit_iff v j).1 hb, by omega⟩
        · exact ⟨j, by omega, (bit_iff v j).1 h3, by omega⟩
      obtain ⟨j, hj, hb, hm⟩ := key
      have hlt := sub_lt_bit hb
      have h1 := ih _ hlt (by omega) (fun i hi => by rw [bsub_t, hd i hi]; rfl)
      have hjb : (bor u v).testBit j = true := by rw [bor_t, hb]; simp
      have hju : u.testBit j = false := by
        cases h : u.testBit j with
        | false => rfl
        | true => rw [hd j h] at hb; cases hb
      have hne : bor u v ≠ 0 := bit_ne hjb
      have he : bsub (bor u v) (pw j) = bor u (bsub v (pw j)) := by
        apply Nat.eq_of_testBit_eq
        intro i
        rw [bsub_t, bor_t, bor_t, bsub_t, pw_t]
        by_cases hi : j = i
        · subst hi; rw [hju]; simp
        · simp [hi]
      have h2 := mostUp_bit (mostN a) (bor u v) 6 0 0 j (by omega) (by omega) ((bit_iff _ j).2 hjb)
      rw [he] at h2
      rw [mostN_eq a v, if_neg h0, mostN_eq a (bor u v), if_neg hne, sumA_ps hs, sumA_ps hs, ps_or a hd, hu]
      have : (0 : Int) + ps a v = 0 ↔ ps a v = 0 := by omega
      simp only [this]
      omega
theorem most_ge {a : Nat → Int} (hs : Small a) {w n : Nat} (h : Part a w n) : w < 64 → n ≤ mostN a w := by
  induction h with
  | nil => intro _; omega
  | @cons w g n h0 hsb hz h ih =>
    intro hw
    have hlt := sub_lt h0 hsb
    have h1 := ih (by omega)
    have hd : Dj g (bsub w g) := fun i hi => by rw [bsub_t, hi]; simp
    have h2 := most_super hs hz (bsub w g) (by omega) hd
    have he : bor g (bsub w g) = w := by
      apply Nat.eq_of_testBit_eq
      intro i
      rw [bor_t, bsub_t]
      have := hsb i
      cases hgi : g.testBit i <;> cases hwi : w.testBit i <;> simp_all
    rw [he] at h2
    have := most_pos hs h0 hz
    omega

def vis (w : Nat) : Nat → Nat → List Nat
  | 0, _ => []
  | f + 1, g => if g = 0 then [] else g :: vis w f (band (g - 1) w)
theorem vis_facts : ∀ w, w < 64 → ∀ g, g < 64 → g ≠ 0 → band g w = g → g ∈ vis w w w := by
  have h : ((List.range 64).all fun w => (List.range 64).all fun g => decide (g = 0) || (!decide (band g w = g) || (vis w w w).contains g)) = true := by kernel_rfl
  intro w hw g hg h2 h3
  rw [List.all_eq_true] at h
  have h4 := h w (by simpa using hw)
  rw [List.all_eq_true] at h4
  have h5 := h4 g (by simpa using hg)
  simpa [h2, h3] using h5
theorem low_bit : ∀ w, w < 64 → w ≠ 0 → ∃ i, i < 6 ∧ low w = pw i ∧ w.testBit i = true := by
  have h : ((List.range 64).all fun w => decide (w = 0) || (List.range 6).any fun i => decide (low w = pw i) && w.testBit i) = true := by kernel_rfl
  intro w hw h0
  rw [List.all_eq_true] at h
  have h1 := h w (by simpa using hw)
  simp only [h0, decide_false, Bool.false_or, List.any_eq_true, Bool.and_eq_true, decide_eq_true_eq] at h1
  obtain ⟨i, h2, h3, h4⟩ := h1
  exact ⟨i, by simpa using h2, h3, h4⟩
theorem lp_ge (T : Nat → Int) (M : Nat → Nat) (w : Nat) : ∀ (f g b : Nat), b ≤ mostLp T M w f g b
  | 0, _, _ => Nat.le_refl _
  | f + 1, g, b => by
    rw [mostLp]
    split
    · exact Nat.le_refl _
    · refine Nat.le_trans ?_ (lp_ge T M w f _ _)
      split
      · exact Nat.le_max_left ..
      · exact Nat.le_refl _
theorem lp_mem (T : Nat → Int) (M : Nat → Nat) (w : Nat) {x : Nat} (h1 : band x (low w) ≠ 0) (h2 : T x = 0) : ∀ (f g b : Nat), x ∈ vis w f g → 1 + M (bsub w x) ≤ mostLp T M w f g b
  | 0, _, _, h => by simp [vis] at h
  | f + 1, g, b, h => by
    rw [vis] at h
    rw [mostLp]
    by_cases h0 : g = 0
    · rw [if_pos h0] at h; simp at h
    · rw [if_neg h0] at h
      rw [if_neg h0]
      rcases List.mem_cons.mp h with h | h
      · subst h
        rw [if_pos ⟨h1, h2⟩]
        exact Nat.le_trans (Nat.le_max_right ..) (lp_ge T M w f _ _)
      · exact lp_mem T M w h1 h2 f _ _ h
theorem band_sub (a w : Nat) : Sb (band a w) w := fun i h => by rw [band_t, Bool.and_eq_true] at h; exact h.2
theorem lp_att (T : Nat → Int) (M : Nat → Nat) (w : Nat) : ∀ (f g b : Nat), Sb g w → mostLp T M w f g b = b ∨ ∃ x, Sb x w ∧ x ≠ 0 ∧ T x = 0 ∧ mostLp T M w f g b = 1 + M (bsub w x)
  | 0, _, _, _ => Or.inl rfl
  | f + 1, g, b, hg => by
    rw [mostLp]
    by_cases h0 : g = 0
    · rw [if_pos h0]; exact Or.inl rfl
    · rw [if_neg h0]
      by_cases hc : band g (low w) ≠ 0 ∧ T g = 0
      · rw [if_pos hc]
        rcases lp_att T M w f (band (g - 1) w) (max b (1 + M (bsub w g))) (band_sub _ _) with h | h
        · rcases Nat.le_total b (1 + M (bsub w g)) with hle | hle
          · right; exact ⟨g, hg, h0, hc.2, by rw [h, Nat.max_eq_right hle]⟩
          · left; rw [h, Nat.max_eq_left hle]
        · exact Or.inr h
      · rw [if_neg hc]; exact lp_att T M w f _ b (band_sub _ _)
theorem ref_ge {a : Nat → Int} {T : Nat → Int} (hT : ∀ g, g < 64 → T g = ps a g) : ∀ (f w n : Nat), w < f → w < 64 → Part a w n → n ≤ mostR T f w
  | 0, w, n, h, _, _ => by omega
  | f + 1, w, n, h, hw, hp => by
    rw [mostR]
    by_cases h0 : w = 0
    · subst h0
      cases hp with
      | nil => simp
      | cons h0 hs _ _ => exact absurd (Nat.le_zero.mp hs.le) h0
    · rw [if_neg h0]
      obtain ⟨i, hi, hl, hb⟩ := low_bit w hw h0
      obtain ⟨g, m, rfl, h1, h2, h3, h4⟩ := hp.extract i hb
      have hg0 : g ≠ 0 := bit_ne h2
      have hlt := sub_lt hg0 h1
      have hg64 : g < 64 := Nat.lt_of_le_of_lt h1.le hw
      have := ref_ge hT f (bsub w g) m (by omega) (by omega) h4
      have := lp_mem T (mostR T f) w (x := g) (by rw [hl]; exact band_pw h2) (by rw [hT g hg64]; exact h3) w w 0 (vis_facts w hw g hg64 hg0 (sb_band h1))
      omega
theorem ref_part {a : Nat → Int} {T : Nat → Int} (hT : ∀ g, g < 64 → T g = ps a g) : ∀ (f w : Nat), w < f → w < 64 → ps a w = 0 → Part a w (mostR T f w)
  | 0, w, h, _, _ => by omega
  | f + 1, w, h, hw, hz => by
    rw [mostR]
    by_cases h0 : w = 0
    · rw [if_pos h0]; subst h0; exact .nil
    · rw [if_neg h0]
      obtain ⟨i, hi, hl, hb⟩ := low_bit w hw h0
      have h1 := lp_mem T (mostR T f) w (x := w) (by rw [hl]; exact band_pw hb) (by rw [hT w hw]; exact hz) w w 0 (vis_facts w hw w hw h0 (sb_band (Sb.refl w)))
      rcases lp_att T (mostR T f) w w w 0 (Sb.refl w) with h2 | ⟨x, h3, h4, h5, h6⟩
      · omega
      · rw [h6, Nat.add_comm]
        have hx : x < 64 := Nat.lt_of_le_of_lt h3.le hw
        rw [hT x hx] at h5
        have hlt := sub_lt h4 h3
        exact .cons h4 h3 h5 (ref_part hT f (bsub w x) (by omega) (by omega) (by rw [ps_sub a h3]; omega))
theorem most_same {a : Nat → Int} (hs : Small a) {T : Nat → Int} (hT : ∀ g, g < 64 → T g = ps a g) {w : Nat} (hw : w < 64) (hz : ps a w = 0) : mostR T 64 w = mostN a w := by
  have h1 := ref_part hT 64 w hw hw hz
  have h2 := most_ge hs h1 hw
  obtain ⟨u, _, h3, h4⟩ := most_part hs w hw
  rw [h4 hz] at h3
  have h5 := ref_ge hT 64 w _ hw hw h3
  omega
end Go.Proofs.Ytlhfeiacigmliaa

/- The plain law of what is owed, and of the groups that the program returns. -/
namespace Go.Proofs.Ytlhfeiacigmliaa
open Go
set_option maxRecDepth 100000

def owP : List Ent → List Int → Nat → Int
  | e :: es, x :: L, j => owP es L j + (if e.fr = Int.ofNat j then x else 0) - (if e.to = Int.ofNat j then x else 0)
  | _, _, _ => 0
def OkW (w : Nat) (es : List Ent) : Prop := ∀ e ∈ es, ∃ f t : Nat, f < w ∧ t < w ∧ f ≠ t ∧ e.fr = Int.ofNat f ∧ e.to = Int.ofNat t
theorem okw_of_check {S : Slate} (h : checkSlate S = 0) : OkW S.women.toNat S.es := by
  unfold checkSlate at h
  split at h
  · cases h
  split at h
  · cases h
  rename_i h1 h2
  simp only [Bool.or_eq_true, decide_eq_true_eq, not_or, Int.not_lt, Bool.not_eq_true', Bool.not_eq_false] at h1 h2
  obtain ⟨⟨h1, h3⟩, h4⟩ := h1
  obtain ⟨⟨h2, h5⟩, h6⟩ := h2
  have hw : wr .i64 (S.women - 1) = S.women - 1 := wr_in (by omega) (by omega)
  simp only [allB, List.all_eq_true] at h5
  intro e he
  have := h5 e he
  simp only [entOk, pair, woman, hw, Bool.and_eq_true, within_iff, Bool.not_eq_true', decide_eq_false_iff_not] at this
  obtain ⟨⟨⟨a1, a2⟩, ⟨b1, b2⟩, b3⟩, _⟩ := this
  exact ⟨e.fr.toNat, e.to.toNat, by omega, by omega, by omega, by simp; omega, by simp; omega⟩
theorem ow_le {w : Nat} : ∀ {es : List Ent} {L : List Int}, OkW w es → OkE es → areOz es L = true → ∀ j, -(40 * (es.length : Int)) ≤ owP es L j ∧ owP es L j ≤ 40 * (es.length : Int)
  | [], _, _, _, _, j => by simp [owP]
  | e :: es, [], _, _, h, _ => by simp [areOz] at h
  | e :: es, x :: L, hw, ho, h, j => by
    simp only [areOz, Bool.and_eq_true] at h
    obtain ⟨hx, h⟩ := h
    rw [within_iff] at hx
    have hoe := ho e (by simp)
    obtain ⟨f, t, _, _, hne, hf, ht⟩ := hw e (by simp)
    have ih := ow_le (es := es) (L := L) (fun e he => hw e (by simp [he])) (fun e he => ho e (by simp [he])) h j
    rw [owP, List.length_cons, hf, ht]
    simp only [Int.natCast_add, Int.natCast_one]
    by_cases h1 : f = j
    · have h2 : ¬ t = j := by omega
      simp only [h1, if_true, Int.ofNat_eq_natCast, Int.ofNat_inj, h2, if_false]; omega
    · by_cases h2 : t = j
      · simp only [h2, if_true, Int.ofNat_eq_natCast, Int.ofNat_inj, h1, if_false]; omega
      · simp only [Int.ofNat_eq_natCast, Int.ofNat_inj, h1, h2, if_false]; omega
theorem ow_plain {j : Nat} : ∀ {es : List Ent} {L : List Int} (n B : Int), OkE es → areOz es L = true → -B ≤ n → n ≤ B → B + 80 * es.length ≤ 1000000 → owedUp n (Int.ofNat j) es L = n + owP es L j
  | [], [], n, B, _, _, _, _, _ => by simp [owedUp, owP]
  | [], _ :: _, _, _, _, h, _, _, _ => by simp [areOz] at h
  | _ :: _, [], _, _, _, h, _, _, _ => by simp [areOz] at h
  | e :: es, x :: L, n, B, ho, h, h1, h2, h3 => by
    simp only [areOz, Bool.and_eq_true] at h
    obtain ⟨hx, h⟩ := h
    rw [within_iff] at hx
    have hoe := ho e (by simp)
    simp only [List.length_cons, Int.natCast_add, Int.natCast_one] at h3
    rw [owedUp, owP]
    have e1 : (if e.fr = Int.ofNat j then wr .i64 (n + x) else n) = n + (if e.fr = Int.ofNat j then x else 0) := by
      split
      · exact wr_in (by omega) (by omega)
      · omega
    have e2 : ∀ m : Int, -2000000 ≤ m → m ≤ 2000000 → (if e.to = Int.ofNat j then wr .i64 (m - x) else m) = m - (if e.to = Int.ofNat j then x else 0) := by
      intro m g1 g2
      split
      · exact wr_in (by omega) (by omega)
      · omega
    have b1 : 0 ≤ (if e.fr = Int.ofNat j then x else 0) ∧ (if e.fr = Int.ofNat j then x else 0) ≤ 40 := by split <;> omega
    have b2 : 0 ≤ (if e.to = Int.ofNat j then x else 0) ∧ (if e.to = Int.ofNat j then x else 0) ≤ 40 := by split <;> omega
    simp only [e1]
    rw [e2 _ (by omega) (by omega), ow_plain _ (B + 80) (fun e he => ho e (by simp [he])) h (by omega) (by omega) (by omega)]
    omega
theorem owV_plain {S : Slate} {L : List Int} (hG : Good S) (h : areOz S.es L = true) : owV S.es L = owP S.es L := by
  funext j
  have h6 := hG.e6
  unfold owV
  rw [ow_plain 0 0 hG.oe h (by omega) (by omega) (by omega)]
  omega
theorem ow_out {w : Nat} : ∀ {es : List Ent} {L : List Int}, OkW w es → ∀ j, w ≤ j → owP es L j = 0
  | [], _, _, _, _ => rfl
  | _ :: _, [], _, _, _ => rfl
  | e :: es, x :: L, hw, j, hj => by
    obtain ⟨f, t, h1, h2, hne, hf, ht⟩ := hw e (by simp)
    have ih := ow_out (es := es) (L := L) (fun e he => hw e (by simp [he])) j hj
    rw [owP, hf, ht, ih]
    simp only [Int.ofNat_eq_natCast, Int.ofNat_inj]
    rw [if_neg (by omega), if_neg (by omega)]; rfl
def dl (f : Nat) (x : Int) (j : Nat) : Int := if f = j then x else 0
theorem ps_add (a b : Nat → Int) (w : Nat) : ps (fun j => a j + b j) w = ps a w + ps b w := by
  have ht : ∀ i, term (fun j => a j + b j) w i = term a w i + term b w i := by
    intro i; unfold term; split <;> simp
  unfold ps
  simp only [ht]; omega
theorem ps_neg (a : Nat → Int) (w : Nat) : ps (fun j => -a j) w = -ps a w := by
  have ht : ∀ i, term (fun j => -a j) w i = -term a w i := by
    intro i; unfold term; split <;> simp
  unfold ps
  simp only [ht]; omega
theorem ps_dl {f : Nat} (hf : f < 6) (x : Int) (w : Nat) : ps (dl f x) w = if w.testBit f then x else 0 := by
  match f, hf with
  | 0, _ => simp [ps, term, dl]
  | 1, _ => simp [ps, term, dl]
  | 2, _ => simp [ps, term, dl]
  | 3, _ => simp [ps, term, dl]
  | 4, _ => simp [ps, term, dl]
  | 5, _ => simp [ps, term, dl]
/-- A payment, or an entry. -/
def mv (a : Nat → Int) (f t : Nat) (x : Int) : Nat → Int := fun j => a j + (dl f x j + -dl t x j)
theorem ps_mv (a : Nat → Int) {f t : Nat} (hf : f < 6) (ht : t < 6) (x : Int) (w : Nat) : ps (mv a f t x) w = ps a w + ((if w.testBit f then x else 0) - (if w.testBit t then x else 0)) := by
  unfold mv
  rw [ps_add a, ps_add (dl f x), ps_neg, ps_dl hf, ps_dl ht]; omega
theorem ow_mv {e : Ent} {f t : Nat} (hf : e.fr = Int.ofNat f) (ht : e.to = Int.ofNat t) (es : List Ent) (x : Int) (L : List Int) : owP (e :: es) (x :: L) = mv (owP es L) f t x := by
  funext j
  rw [owP, hf, ht]
  unfold mv dl
  simp only [Int.ofNat_eq_natCast, Int.ofNat_inj]; omega
theorem test63 {i : Nat} (h : i < 6) : (63 : Nat).testBit i = true := by
  match i, h with
  | 0, _ | 1, _ | 2, _ | 3, _ | 4, _ | 5, _ => rfl
theorem ow_sum {w : Nat} (h6 : w ≤ 6) : ∀ {es : List Ent} {L : List Int}, OkW w es → ps (owP es L) 63 = 0
  | [], _, _ => by simp [ps, term, owP]
  | _ :: _, [], _ => by simp [ps, term, owP]
  | e :: es, x :: L, hw => by
    obtain ⟨f, t, h1, h2, hne, hf, ht⟩ := hw e (by simp)
    have ih := ow_sum h6 (es := es) (L := L) (fun e he => hw e (by simp [he]))
    rw [ow_mv hf ht, ps_mv _ (by omega) (by omega), ih, test63 (by omega), test63 (by omega)]; simp

theorem openUp_t (a : Nat → Int) (j : Nat) : ∀ (k i n : Nat), (openUp a n i k).testBit j = (n.testBit j || decide (i ≤ j ∧ j < i + k ∧ a j ≠ 0))
  | 0, i, n => by
    have : ¬ (i ≤ j ∧ j < i + 0 ∧ a j ≠ 0) := by omega
    simp only [openUp, this, decide_false, Bool.or_false]
  | k + 1, i, n => by
    rw [openUp, openUp_t a j k (i + 1)]
    by_cases hz : a i = 0
    · rw [if_pos hz]
      congr 2
      apply propext
      constructor
      · rintro ⟨h1, h2, h3⟩; exact ⟨by omega, by omega, h3⟩
      · rintro ⟨h1, h2, h3⟩
        have : i ≠ j := fun h => h3 (by rw [← h]; exact hz)
        exact ⟨by omega, by omega, h3⟩
    · rw [if_neg hz, bor_t, pw_t, Bool.or_assoc]
      congr 1
      by_cases hij : i = j
      · subst hij; simp [hz]
      · simp only [hij, decide_false, Bool.false_or]
        congr 1
        apply propext
        constructor
        · rintro ⟨h1, h2, h3⟩; exact ⟨by omega, by omega, h3⟩
        · rintro ⟨h1, h2, h3⟩; exact ⟨by omega, by omega, h3⟩
theorem open_t (a : Nat → Int) (j : Nat) : (openN a).testBit j = decide (j < 6 ∧ a j ≠ 0) := by
  unfold openN
  rw [openUp_t]
  simp
theorem open_ps (a : Nat → Int) : ps a (openN a) = ps a 63 := by
  have ht : ∀ i, i < 6 → term a (openN a) i = term a 63 i := by
    intro i hi
    unfold term
    rw [open_t, test63 hi]
    by_cases h : a i = 0
    · simp [h]
    · simp [h, hi]
  unfold ps
  rw [ht 0 (by omega), ht 1 (by omega), ht 2 (by omega), ht 3 (by omega), ht 4 (by omega), ht 5 (by omega)]
theorem open_same {S : Slate} {L : List Int} (hc : checkSlate S = 0) (h : areOz S.es L = true) : openR S L = openN (owV S.es L) := by
  have hG := good_of_check hc
  have hw := okw_of_check hc
  apply Nat.eq_of_testBit_eq
  intro j
  rw [open_t]
  unfold openR
  rw [openUp_t, owV_plain hG h]
  simp only [Nat.zero_testBit, Bool.false_or]
  congr 1
  apply propext
  have h6 := hG.w6
  constructor
  · rintro ⟨_, h2, h3⟩; exact ⟨by omega, h3⟩
  · rintro ⟨h1, h2⟩
    refine ⟨by omega, ?_, h2⟩
    rcases Nat.lt_or_ge j S.women.toNat with hj | hj
    · omega
    · exact absurd (ow_out hw j hj) h2
theorem open_zero {S : Slate} {L : List Int} (hc : checkSlate S = 0) (h : areOz S.es L = true) : ps (owV S.es L) (openN (owV S.es L)) = 0 := by
  have hG := good_of_check hc
  have h6 := hG.w6
  rw [open_ps, owV_plain hG h]
  exact ow_sum (w := S.women.toNat) (by omega) (okw_of_check hc)

def grpN (a : Nat → Int) : Nat → Nat → Nat → List Nat
  | 0, _, _ => []
  | f + 1, w, g => if w = 0 then [] else match findI a w (leftN a w) 0 6 with
    | none => []
    | some i => if sumA a (bsub w (pw i)) = 0 then bor g (pw i) :: grpN a f (bsub w (pw i)) 0 else grpN a f (bsub w (pw i)) (bor g (pw i))
theorem grp_map (a : Nat → Int) : ∀ f w g, grp a f w g = (grpN a f w g).map bitsOf
  | 0, _, _ => rfl
  | f + 1, w, g => by
    rw [grp, grpN]
    by_cases h0 : w = 0
    · rw [if_pos h0, if_pos h0]; rfl
    · rw [if_neg h0, if_neg h0]
      cases hf : findI a w (leftN a w) 0 6 with
      | none => rfl
      | some i =>
        simp only
        by_cases hs : sumA a (bsub w (pw i)) = 0
        · rw [if_pos hs, if_pos hs, List.map_cons, grp_map a f]
        · rw [if_neg hs, if_neg hs, grp_map a f]
theorem findI_val {a : Nat → Int} {w left x : Nat} : ∀ {k i : Nat}, findI a w left i k = some x → mostN a (bsub w (pw x)) = left
  | 0, _, h => by simp [findI] at h
  | k + 1, i, h => by
    rw [findI] at h
    by_cases hc : bsub w (pw i) ≠ w ∧ mostN a (bsub w (pw i)) = left
    · rw [if_pos hc, Option.some.injEq] at h; subst h; exact hc.2
    · rw [if_neg hc] at h; exact findI_val h
theorem sub_no_bit {w i : Nat} (h : w.testBit i = false) : bsub w (pw i) = w := by
  apply Nat.eq_of_testBit_eq
  intro j
  rw [bsub_t, pw_t]
  by_cases hij : i = j
  · subst hij; rw [h]; rfl
  · simp [hij]
theorem lt_bit {w i : Nat} (h : bsub w (pw i) < w) : w.testBit i = true := by
  cases hb : w.testBit i with
  | true => rfl
  | false => rw [sub_no_bit hb] at h; omega
theorem bor_lt64 {a b : Nat} (ha : a < 64) (hb : b < 64) : bor a b < 64 := Nat.or_lt_two_pow (n := 6) ha hb
theorem pw_64 {i : Nat} (h : i < 6) : pw i < 64 := Nat.pow_lt_pow_right (a := 2) (m := i) (n := 6) (by omega) (by omega)
theorem grp_law {a : Nat → Int} (hs : Small a) {T : Nat → Int} (hT : ∀ g, g < 64 → T g = ps a g) : ∀ f w g, w < f → w < 64 → g < 64 → Dj g w → ps a g + ps a w = 0 → (w = 0 → g = 0) → GrpsOk T (bor g w) (grpN a f w g)
  | 0, w, g, h, _, _, _, _, _ => by omega
  | f + 1, w, g, hf, hw, hg, hd, hz, h0g => by
    rw [grpN]
    by_cases h0 : w = 0
    · rw [if_pos h0, h0g h0, h0]; rfl
    · obtain ⟨x, hx, hx6, hlt⟩ := findI_ok a h0 hw
      have hb := lt_bit hlt
      have hxg : g.testBit x = false := by
        cases h : g.testBit x with
        | false => rfl
        | true => rw [hd x h] at hb; cases hb
      rw [if_neg h0, hx]
      simp only
      have hpg : ps a (bor g (pw x)) + ps a (bsub w (pw x)) = 0 := by
        rw [ps_or a (fun i hi => by
          rw [pw_t, decide_eq_false_iff_not]; intro h; subst h; rw [hxg] at hi; cases hi), ps_sub a (sb_pw hb)]
        omega
      have hgx : (bor g (pw x)).testBit x = true := by rw [bor_t, pw_t]; simp
      have hdj : Dj (bor g (pw x)) (bsub w (pw x)) := by
        intro i hi
        rw [bor_t, pw_t] at hi
        rw [bsub_t, pw_t]
        by_cases hxi : x = i
        · simp [hxi]
        · simp only [hxi, decide_false, Bool.or_false] at hi
          rw [hd i hi]; rfl
      have hun : bor (bor g (pw x)) (bsub w (pw x)) = bor g w := by
        apply Nat.eq_of_testBit_eq
        intro i
        simp only [bor_t, bsub_t, pw_t]
        by_cases hxi : x = i
        · subst hxi; rw [hb]; simp
        · simp [hxi]
      rw [sumA_ps hs]
      by_cases hsz : ps a (bsub w (pw x)) = 0
      · rw [if_pos hsz]
        have hg64 : bor g (pw x) < 64 := bor_lt64 hg (pw_64 hx6)
        refine ⟨bit_ne hgx, ?_, by rw [hT _ hg64]; omega, ?_⟩
        · apply sb_band
          intro i hi
          rw [← hun, bor_t, hi]; rfl
        · have hrest : bsub (bor g w) (bor g (pw x)) = bsub w (pw x) := by
            apply Nat.eq_of_testBit_eq
            intro i
            simp only [bor_t, bsub_t, pw_t]
            have := hd i
            cases hgi : g.testBit i <;> cases hwi : w.testBit i <;> simp_all
          rw [hrest]
          have ih := grp_law hs hT f (bsub w (pw x)) 0 (by omega) (by omega) (by omega) (fun i hi => by simp at hi) (by rw [ps_zero]; omega) (fun _ => rfl)
          have : bor 0 (bsub w (pw x)) = bsub w (pw x) := by unfold bor; exact Nat.zero_or _
          rw [this] at ih
          exact ih
      · rw [if_neg hsz]
        have ih := grp_law hs hT f (bsub w (pw x)) (bor g (pw x)) (by omega) (by omega) (bor_lt64 hg (pw_64 hx6)) hdj hpg (fun h => by rw [h, ps_zero] at hsz; exact absurd rfl hsz)
        rw [hun] at ih
        exact ih
theorem grp_count {a : Nat → Int} (hs : Small a) : ∀ f w g, w < f → w < 64 → (grpN a f w g).length = if w = 0 then 0 else leftN a w + 1
  | 0, w, g, h, _ => by omega
  | f + 1, w, g, hf, hw => by
    rw [grpN]
    by_cases h0 : w = 0
    · rw [if_pos h0, if_pos h0]; rfl
    · obtain ⟨x, hx, hx6, hlt⟩ := findI_ok a h0 hw
      have hv := findI_val hx
      rw [if_neg h0, if_neg h0, hx]
      simp only
      have hm := mostN_eq a (bsub w (pw x))
      rw [sumA_ps hs] at hm
      rw [sumA_ps hs]
      by_cases hsz : ps a (bsub w (pw x)) = 0
      · rw [if_pos hsz, List.length_cons, grp_count hs f _ 0 (by omega) (by omega)]
        rw [if_pos hsz] at hm
        by_cases hz : bsub w (pw x) = 0
        · rw [if_pos hz]; rw [if_pos hz] at hm; omega
        · rw [if_neg hz]; rw [if_neg hz] at hm; unfold leftN at *; omega
      · have hz : bsub w (pw x) ≠ 0 := fun h => hsz (by rw [h, ps_zero])
        rw [if_neg hsz, grp_count hs f _ _ (by omega) (by omega), if_neg hz]
        rw [if_neg hsz, if_neg hz] at hm
        unfold leftN at *; omega
theorem groups_law {a : Nat → Int} (hs : Small a) {T : Nat → Int} (hT : ∀ g, g < 64 → T g = ps a g) (hz : ps a (openN a) = 0) : ∃ gs : List Nat, groupsA a = gs.map bitsOf ∧ GrpsOk T (openN a) gs ∧ gs.length = mostN a (openN a) := by
  have ho := openN_lt a
  refine ⟨grpN a 64 (openN a) 0, grp_map a 64 (openN a) 0, ?_, ?_⟩
  · have h := grp_law hs hT 64 (openN a) 0 ho ho (by omega) (fun i hi => by simp at hi) (by rw [ps_zero]; omega) (fun _ => rfl)
    have : bor 0 (openN a) = openN a := by unfold bor; exact Nat.zero_or _
    rw [this] at h
    exact h
  · rw [grp_count hs 64 (openN a) 0 ho ho]
    rw [mostN_eq, sumA_ps hs, if_pos hz]
    rfl
end Go.Proofs.Ytlhfeiacigmliaa

/- The wash-house's soap, plain law: the first wrong saying, and the smallest set, are as the document says. -/
namespace Go.Proofs.Ytlhfeiacigmliaa
open Go
set_option maxRecDepth 10000

end Go.Proofs.Ytlhfeiacigmliaa

/- From the evaluator to the rows: what a row gives, and what it wants. -/
namespace Go.Proofs.Ytlhfeiacigmliaa
open Go Go.ChangeShapes Go.RowKit
set_option maxRecDepth 100000

theorem mapM_each {α β : Type} {f : α → Option β} : ∀ {l : List α} {ys : List β}, l.mapM f = some ys → ∀ a ∈ l, ∃ y, f a = some y
  | [], _, _, a, ha => by simp at ha
  | x :: l, ys, h, a, ha => by
    rw [List.mapM_cons] at h
    cases hx : f x with
    | none => rw [hx] at h; simp at h
    | some y =>
      rw [hx] at h
      cases hl : l.mapM f with
      | none => rw [hl] at h; simp at h
      | some zs =>
        simp only [List.mem_cons] at ha
        rcases ha with rfl | ha
        · exact ⟨y, hx⟩
        · exact mapM_each hl a ha
section
variable {H : Type} {enc : TypeId × Value → H} {P : Program} {w : World}
abbrev trd (enc : TypeId × Value → H) (P : Program) (w : World) (fuel : Nat) (t : TypeId) (cs : List Value) : Option (DataW H × List MemPlace) := DataW.trod enc P w 0 (fun _ => true) true fuel t cs
theorem trd_struct {t : TypeId} {fs : Array Field} (hu : P.underlying t = some (.struct fs)) {fuel : Nat} {cs : List Value} {x : DataW H × List MemPlace} (h : trd enc P w fuel t cs = some x) :
    cs.length = P.cellsOf t ∧ ∃ fuel', ∀ f ∈ fs.toList, ∃ y, trd enc P w fuel' f.type ((cs.drop f.offset).take (P.cellsOf f.type)) = some y := by
  cases fuel with
  | zero => simp [trd, DataW.trod] at h
  | succ fuel =>
    simp only [trd, DataW.trod, hu] at h
    split at h
    · rename_i hl
      refine ⟨hl, fuel, fun f hf => ?_⟩
      rw [Option.map_eq_some_iff] at h
      obtain ⟨ys, h1, _⟩ := h
      exact mapM_each h1 f hf
    · cases h
theorem trd_slice {t e : TypeId} (hu : P.underlying t = some (.slice e)) {fuel : Nat} {cs : List Value} {x : DataW H × List MemPlace} (h : trd enc P w fuel t cs = some x) :
    cs = [.slice none 0 0] ∨ ∃ a len cap, cs = [.slice (some a) len cap] ∧ len ≤ cap ∧ ∃ fuel', ∀ i, i < len → ∃ row y, w.cells? 0 (a.add (i * P.cellsOf e)) (P.cellsOf e) = some row ∧ trd enc P w fuel' e row = some y := by
  cases fuel with
  | zero => simp [trd, DataW.trod] at h
  | succ fuel =>
    unfold trd DataW.trod at h
    rw [hu] at h
    rcases cs with _ | ⟨v, _ | ⟨v2, r⟩⟩
    · cases h
    · cases v with
      | slice o len cap =>
        cases o with
        | none =>
          left
          cases len with
          | zero =>
            cases cap with
            | zero => rfl
            | succ n => cases h
          | succ n => cases h
        | some a =>
          right
          simp only at h
          split at h
          · rename_i hc
            refine ⟨a, len, cap, rfl, hc.2.1, fuel, fun i hi => ?_⟩
            cases he : (List.range len).mapM fun i => (w.cells? 0 (a.add (i * P.cellsOf e)) (P.cellsOf e)).bind (DataW.trod enc P w 0 (fun _ => true) true fuel e) with
            | none => rw [he] at h; cases h
            | some ys =>
              obtain ⟨y, hy⟩ := mapM_each he i (by simpa using hi)
              rw [Option.bind_eq_some_iff] at hy
              obtain ⟨row, h1, h2⟩ := hy
              exact ⟨row, y, h1, h2⟩
          · cases h
      | _ => cases h
    · cases v with
      | slice o len cap =>
        cases o with
        | none =>
          cases len with
          | zero => cases cap <;> cases h
          | succ n => cases h
        | some a => cases h
      | _ => cases h
def Flat (enc : TypeId × Value → H) (P : Program) (w : World) (t : TypeId) (k : Nat) : Prop := ∀ fuel cs x, trd enc P w fuel t cs = some x → cs.length = k ∧ ∀ v ∈ cs, ∃ n : Int, v = .int .i64 n
theorem flat_int {t : TypeId} (hu : P.underlying t = some (.int .i64)) : Flat enc P w t 1 := by
  intro fuel cs x h
  cases fuel with
  | zero => simp [trd, DataW.trod] at h
  | succ fuel =>
    unfold trd DataW.trod at h
    rw [hu] at h
    rcases cs with _ | ⟨v, _ | ⟨v2, r⟩⟩
    · cases h
    · cases v with
      | int k n =>
        simp only at h
        split at h
        · rename_i hc
          obtain ⟨rfl, _⟩ := hc
          exact ⟨rfl, fun v hv => ⟨n, by simpa using hv⟩⟩
        · cases h
      | _ => cases h
    · cases v <;> cases h
/-- A structure of two or three fields that lie one behind the other. -/
theorem flat_two {t t0 t1 : TypeId} {k0 k1 : Nat} {fs : Array Field} (hu : P.underlying t = some (.struct fs)) {f0 f1 : Field} (hf : fs.toList = [f0, f1]) (h0 : f0.type = t0 ∧ f0.offset = 0 ∧ P.cellsOf t0 = k0) (h1 : f1.type = t1 ∧ f1.offset = k0 ∧ P.cellsOf t1 = k1)
    (hc : P.cellsOf t = k0 + k1) (F0 : Flat enc P w t0 k0) (F1 : Flat enc P w t1 k1) : Flat enc P w t (k0 + k1) := by
  intro fuel cs x h
  obtain ⟨hl, fuel', he⟩ := trd_struct hu h
  rw [hc] at hl
  rw [hf] at he
  obtain ⟨rfl, o0, c0⟩ := h0
  obtain ⟨rfl, o1, c1⟩ := h1
  obtain ⟨y0, g0⟩ := he f0 (by simp)
  obtain ⟨y1, g1⟩ := he f1 (by simp)
  rw [o0, c0, List.drop_zero] at g0
  rw [o1, c1, List.take_of_length_le (by simp; omega)] at g1
  obtain ⟨_, a0⟩ := F0 _ _ _ g0
  obtain ⟨_, a1⟩ := F1 _ _ _ g1
  refine ⟨hl, fun v hv => ?_⟩
  rw [← List.take_append_drop k0 cs, List.mem_append] at hv
  rcases hv with hv | hv
  · exact a0 v hv
  · exact a1 v hv
theorem flat_three {t t0 t1 t2 : TypeId} {k0 k1 k2 : Nat} {fs : Array Field} (hu : P.underlying t = some (.struct fs)) {f0 f1 f2 : Field} (hf : fs.toList = [f0, f1, f2]) (h0 : f0.type = t0 ∧ f0.offset = 0 ∧ P.cellsOf t0 = k0) (h1 : f1.type = t1 ∧ f1.offset = k0 ∧ P.cellsOf t1 = k1)
    (h2 : f2.type = t2 ∧ f2.offset = k0 + k1 ∧ P.cellsOf t2 = k2) (hc : P.cellsOf t = k0 + k1 + k2) (F0 : Flat enc P w t0 k0) (F1 : Flat enc P w t1 k1) (F2 : Flat enc P w t2 k2) : Flat enc P w t (k0 + k1 + k2) := by
  intro fuel cs x h
  obtain ⟨hl, fuel', he⟩ := trd_struct hu h
  rw [hc] at hl
  rw [hf] at he
  obtain ⟨rfl, o0, c0⟩ := h0
  obtain ⟨rfl, o1, c1⟩ := h1
  obtain ⟨rfl, o2, c2⟩ := h2
  obtain ⟨y0, g0⟩ := he f0 (by simp)
  obtain ⟨y1, g1⟩ := he f1 (by simp)
  obtain ⟨y2, g2⟩ := he f2 (by simp)
  rw [o0, c0, List.drop_zero] at g0
  rw [o1, c1] at g1
  rw [o2, c2, List.take_of_length_le (by simp; omega)] at g2
  obtain ⟨_, a0⟩ := F0 _ _ _ g0
  obtain ⟨_, a1⟩ := F1 _ _ _ g1
  obtain ⟨_, a2⟩ := F2 _ _ _ g2
  refine ⟨hl, fun v hv => ?_⟩
  rw [← List.take_append_drop k0 cs, List.mem_append] at hv
  rcases hv with hv | hv
  · exact a0 v hv
  · rw [← List.take_append_drop k1 (cs.drop k0), List.mem_append, List.drop_drop] at hv
    rcases hv with hv | hv
    · exact a1 v hv
    · exact a2 v hv
/-- The cells of a slice of such things. -/
theorem slice_vals {t e : TypeId} {k : Nat} (hu : P.underlying t = some (.slice e)) (hk : P.cellsOf e = k) (F : Flat enc P w e k) {fuel : Nat} {v : Value} {x : DataW H × List MemPlace} (h : trd enc P w fuel t [v] = some x)
    (hs : ∀ a len cap, v = .slice (some a) len cap → a.spot = none) : ∃ (len : Nat) (vals : Nat → Int), VRel (rho0 w) (.vsl ((List.range (len * k)).map fun j => i64 (vals j)) len .no) v := by
  rcases trd_slice hu h with h | ⟨a, len, cap, h, hlc, fuel', he⟩
  · simp only [List.cons.injEq, and_true] at h
    subst h
    refine ⟨0, fun _ => 0, ?_⟩
    rw [Nat.zero_mul]
    exact Or.inl ⟨rfl, rfl, fun p hp => (by cases hp), rfl⟩
  · simp only [List.cons.injEq, and_true] at h
    have hsp := hs a len cap h
    subst h
    obtain ⟨R, off, sp⟩ := a
    simp only at hsp
    subst hsp
    have hcell : ∀ j, ∃ n : Int, j < len * k → w.cell? ⟨R, off + j, none⟩ = some (.int .i64 n) := by
      intro j
      by_cases hj : j < len * k
      · have hk0 : 0 < k := by
          rcases Nat.eq_zero_or_pos k with h | h
          · subst h; simp at hj
          · exact h
        obtain ⟨row, y, g1, g2⟩ := he (j / k) (Nat.div_lt_of_lt_mul (by rw [Nat.mul_comm]; exact hj))
        rw [hk] at g1
        obtain ⟨_, hrl, hrc⟩ := World.cells?_some g1
        obtain ⟨_, ha⟩ := F _ _ _ g2
        have hm : j % k < k := Nat.mod_lt _ hk0
        have hrow : row[j % k]? = some (row[j % k]'(by omega)) := List.getElem?_eq_getElem _
        obtain ⟨n, hn⟩ := ha _ (List.getElem_mem (l := row) (n := j % k) (by omega))
        refine ⟨n, fun _ => ?_⟩
        have := hrc (j % k) hm
        rw [hrow, hn] at this
        rw [← this]
        congr 1
        have hdm := Nat.div_add_mod' j k
        generalize j / k * k = u at hdm
        generalize j % k = z at hdm
        simp only [Addr.add]
        split <;> split <;> simp <;> omega
      · exact ⟨0, fun h => absurd h hj⟩
    refine ⟨len, fun j => (hcell j).choose, Or.inr ⟨R, off, cap, rfl, hlc, IRel.of_get fun i a ha => ?_, trivial⟩⟩
    have hi : i < len * k := by
      rcases Nat.lt_or_ge i (len * k) with h | h
      · exact h
      · rw [List.getElem?_eq_none (by simpa using h)] at ha; cases ha
    rw [List.getElem?_map, List.getElem?_range hi] at ha
    simp only [Option.map_some, Option.some.injEq] at ha
    subst ha
    exact ⟨_, (hcell i).choose_spec hi, rfl, rfl⟩
theorem cells_range {α : Type} {f : α → List AVal} {k : Nat} {mk : Nat → α} {vals : Nat → Int} (hf : ∀ i, f (mk i) = (List.range k).map fun j => i64 (vals (i * k + j))) (n : Nat) : cellsOf f ((List.range n).map mk) = (List.range (n * k)).map fun j => i64 (vals j) := by
  induction n with
  | zero => simp [cells_nil]
  | succ n ih =>
    rw [List.range_succ, List.map_append, cells_append, ih, Nat.add_mul, Nat.one_mul, List.range_add, List.map_append]
    congr 1
    simp only [List.map_cons, List.map_nil, cells_cons, cells_nil, List.append_nil, hf, List.map_map]
    rfl
end

section
variable {H : Type} {enc : TypeId × Value → H} {w : World}
theorem c3 : Try.prog.cellsOf 3 = 1 := by kernel_rfl
theorem c46 : Try.prog.cellsOf 46 = 2 := by kernel_rfl
theorem c85 : Try.prog.cellsOf 85 = 4 := by kernel_rfl
theorem c88 : Try.prog.cellsOf 88 = 3 := by kernel_rfl
theorem c22 : Try.prog.cellsOf 22 = 1 := by kernel_rfl
theorem c23 : Try.prog.cellsOf 23 = 1 := by kernel_rfl
theorem c25 : Try.prog.cellsOf 25 = 3 := by kernel_rfl
theorem F3 : Flat enc Try.prog w 3 1 := flat_int Try.underlying3
theorem F46 : Flat enc Try.prog w 46 2 := flat_two Try.underlying46 rfl ⟨rfl, rfl, c3⟩ ⟨rfl, rfl, c3⟩ c46 F3 F3
theorem F85 : Flat enc Try.prog w 85 4 := flat_three Try.underlying85 rfl ⟨rfl, rfl, c3⟩ ⟨rfl, rfl, c3⟩ ⟨rfl, rfl, c46⟩ c85 F3 F3 F46
theorem F88 : Flat enc Try.prog w 88 3 := flat_two Try.underlying88 rfl ⟨rfl, rfl, c3⟩ ⟨rfl, rfl, c46⟩ c88 F3 F46
theorem spot_of_ok {P : Program} {base : Nat} {t e : TypeId} {v : Value} (hu : P.underlying t = some (.slice e)) (h : Cell.okWide P w .any base t v) : ∀ a len cap, v = .slice (some a) len cap → a.spot = none := by
  rintro a len cap rfl
  unfold Cell.okWide at h
  rw [hu] at h
  unfold Cell.ok at h
  rw [hu] at h
  exact h.2.2.2.1
theorem rel_ents {t : TypeId} (hu : Try.prog.underlying t = some (.slice 85)) {fuel : Nat} {v : Value} {x : DataW H × List MemPlace} (h : trd enc Try.prog w fuel t [v] = some x) (hs : ∀ a len cap, v = .slice (some a) len cap → a.spot = none) : ∃ l : List Ent, VRel (rho0 w) (sl cE l) v := by
  obtain ⟨len, vals, hv⟩ := slice_vals hu c85 F85 h hs
  refine ⟨(List.range len).map fun i => ⟨vals (i * 4 + 0), vals (i * 4 + 1), ⟨vals (i * 4 + 2), vals (i * 4 + 3)⟩⟩, ?_⟩
  have hc := cells_range (f := cE) (k := 4) (mk := fun i => ⟨vals (i * 4 + 0), vals (i * 4 + 1), ⟨vals (i * 4 + 2), vals (i * 4 + 3)⟩⟩) (vals := vals) (fun i => rfl) len
  rw [← hc] at hv
  simpa [sl, lenOf] using hv
theorem rel_says {t : TypeId} (hu : Try.prog.underlying t = some (.slice 88)) {fuel : Nat} {v : Value} {x : DataW H × List MemPlace} (h : trd enc Try.prog w fuel t [v] = some x) (hs : ∀ a len cap, v = .slice (some a) len cap → a.spot = none) : ∃ l : List Say, VRel (rho0 w) (sl cS l) v := by
  obtain ⟨len, vals, hv⟩ := slice_vals hu c88 F88 h hs
  refine ⟨(List.range len).map fun i => ⟨vals (i * 3 + 0), ⟨vals (i * 3 + 1), vals (i * 3 + 2)⟩⟩, ?_⟩
  have hc := cells_range (f := cS) (k := 3) (mk := fun i => ⟨vals (i * 3 + 0), ⟨vals (i * 3 + 1), vals (i * 3 + 2)⟩⟩) (vals := vals) (fun i => rfl) len
  rw [← hc] at hv
  simpa [sl, lenOf] using hv
theorem rel_slate {base : Nat} {v : Value} {d : DataW H} {p : List MemPlace} (hok : Value.okWide Try.prog w .any base 25 v) (h : DataW.Trod enc Try.prog w 0 (fun _ => true) true 25 v d p) : ∃ S : Slate, VRel (rho0 w) (vSl S) v := by
  obtain ⟨fuel, h⟩ := h
  unfold Value.okWide at hok
  rw [Try.underlying25] at hok
  obtain ⟨cs, rfl, hsz, ts, hts, _, hrow⟩ := hok
  rw [c25] at hsz
  have hts' : Try.prog.cellTypes Try.prog.depth 25 = some [3, 22, 23] := by kernel_rfl
  rw [hts'] at hts
  cases hts
  obtain ⟨l⟩ := cs
  simp only [List.size_toArray] at hsz
  match l, hsz with
  | [x0, x1, x2], _ =>
    obtain ⟨_, fuel', he⟩ := trd_struct Try.underlying25 h
    simp only [Value.cells, List.mem_cons, List.not_mem_nil, or_false, forall_eq_or_imp, forall_eq, c3, c22, c23] at he
    obtain ⟨⟨y0, h0⟩, ⟨y1, h1⟩, ⟨y2, h2⟩⟩ := he
    obtain ⟨_, a0⟩ := F3 _ _ _ h0
    obtain ⟨n, hn⟩ := a0 x0 (by simp)
    obtain ⟨u1, e1, o1⟩ := hrow 1 x1 rfl
    obtain ⟨u2, e2, o2⟩ := hrow 2 x2 rfl
    cases e1; cases e2
    obtain ⟨es, r1⟩ := rel_ents Try.underlying22 h1 (spot_of_ok Try.underlying22 o1)
    obtain ⟨ss, r2⟩ := rel_says Try.underlying23 h2 (spot_of_ok Try.underlying23 o2)
    refine ⟨⟨n, es, ss⟩, _, rfl, x0, [x1, x2], rfl, by subst hn; rfl, hn, x1, [x2], rfl, ?_, r1, x2, [], rfl, ?_, r2, rfl⟩
    · rcases r1 with ⟨_, _, _, h⟩ | ⟨_, _, _, h, _⟩ <;> rw [h] <;> rfl
    · rcases r2 with ⟨_, _, _, h⟩ | ⟨_, _, _, h, _⟩ <;> rw [h] <;> rfl

theorem stays_all {P : Program} (hl : laidOutB P = true) {W W' : World} {sp : Nat → Bool} : ∀ {ts : List TypeId} {vs : List Value} {ds : List (DataW H)} {ps : List MemPlace}, (∀ t ∈ ts, P.readableRec t = true ∧ t < P.types.size) →
    DataW.TrodAll enc P W 0 (fun _ => true) true ts vs ds ps → (∀ p ∈ ps, W.sameAt W' p) → (∀ p ∈ ps, sp p.block = true) → DataW.TrodAll enc P W' 0 sp true ts vs ds ps
  | [], vs, ds, ps, _, h, _, _ => by
    cases vs <;> cases ds <;> simp_all [DataW.TrodAll]
  | t :: ts, vs, ds, ps, hr, h, hs, hp => by
    obtain ⟨v, vs', d, ds', p, q, rfl, rfl, rfl, hd, hrest⟩ := trodAll_cons h
    obtain ⟨r1, r2⟩ := hr t (by simp)
    exact ⟨p, q, Go.WideElems.Trod_stays hl r1 r2 hd (fun x hx => hs x (by simp [hx])) (fun x hx => hp x (by simp [hx])), stays_all hl (fun t ht => hr t (by simp [ht])) hrest (fun x hx => hs x (by simp [hx])) (fun x hx => hp x (by simp [hx])), rfl⟩
theorem laid : laidOutB Try.prog = true := by kernel_rfl
theorem shut_true {f : Func} {s : ChangeSpec} {W W' : World} {args : Array Value} {ds : List (DataW H)} {before : List MemPlace} {ρ' : Rho} (hW : DataW.Whole enc Try.prog f.params.toList s.vars false W args.toList ds [] before) (hv : s.vars = [])
    (hr : f.resultTypes.toList = [4]) (hrd : ∀ t ∈ f.params.toList, Try.prog.readableRec t = true ∧ t < Try.prog.types.size) (h1 : (s.fn H (ds ++ [])).results = [.lit (.bool true)]) (h2 : (s.fn H (ds ++ [])).args = ds) (h3 : (s.fn H (ds ++ [])).vars = [])
    (hF : Fwd (rho0 W) W ρ' W') : s.post enc Try.prog f false true false false W args (.bool true) W' := by
  have hb : ∀ R, R < W.heap.size → W'.heap[R]? = W.heap[R]? := fun R hR => hF.kept R hR (by
    rintro (⟨b, hb⟩ | ⟨p, r, hp, _⟩)
    · cases hb
    · cases hp)
  have hlt := hW.lt
  have hW0 := hW
  obtain ⟨p, q, hA, hV, rfl, _, _⟩ := hW0
  rw [hv] at hV
  obtain ⟨_, rfl⟩ := trodVars_none hV
  rw [List.append_nil] at hlt
  have hargs : DataW.TrodAll enc Try.prog W' 0 (fun b => decide (b < W.heap.size)) true f.params.toList args.toList ds p := by
    refine stays_all laid hrd hA (fun x hx => ?_) (fun x hx => by simpa using hlt x hx)
    cases x with
    | cell b o => exact World.cell?_of_block (w := W) (hb b (hlt _ hx))
    | map b => exact hb b (hlt _ hx)
  have hrs : f.resultTypes.size = 1 := by rw [← Array.length_toList, hr]; rfl
  refine ⟨ds, [], _, [], p, [], hW, ?_, ?_, ?_, ⟨hF.os, hF.output, fun i hi => ?_⟩, fun h => by cases h⟩
  · rw [h1, hr, hrs]
    refine trodAll_mk1 ⟨1, ?_⟩
    simp [DataW.trod, Try.underlying4, Value.cells]
  · rw [h2]; exact hargs
  · rw [h3, hv]; rfl
  · rw [hb i hi]; split <;> simp_all
end
end Go.Proofs.Ytlhfeiacigmliaa

/- The wash-house's soap: a slate with some of its sayings, and whether it has a truth. -/
namespace Go.Proofs.Ytlhfeiacigmliaa
open Go
set_option maxRecDepth 100000

theorem ready_inv {S : Slate} (h : readyS S = true) : checkSlate S = 0 ∧ thin S = true := by
  unfold readyS at h
  rw [Bool.and_eq_true, decide_eq_true_eq, fault_eq] at h
  exact ⟨h.2, h.1⟩
end Go.Proofs.Ytlhfeiacigmliaa

/- The plain law of the fewest payments' number: the program's and the document's. -/
namespace Go.Proofs.Ytlhfeiacigmliaa
open Go
set_option maxRecDepth 100000

theorem payV_same {S : Slate} {L : List Int} (hc : checkSlate S = 0) (ha : areOz S.es L = true) : payV (owV S.es L) = payR S L := by
  have hG := good_of_check hc
  have hs := small_ow hG ha
  have hT : ∀ g, g < 64 → togA S.es L g = ps (owV S.es L) g := fun g hg => togA_ps hs hg
  unfold payV payR
  rw [open_same hc ha, most_same hs hT (openN_lt _) (open_zero hc ha)]
end Go.Proofs.Ytlhfeiacigmliaa

/- The plain law of payments: those that the program returns settle all, they are the fewest, and no others that settle all are fewer. -/
namespace Go.Proofs.Ytlhfeiacigmliaa
open Go
set_option maxRecDepth 100000

def payD (x : Pay) (j : Nat) : Int := (if x.fr = Int.ofNat j then x.oz else 0) - (if x.to = Int.ofNat j then x.oz else 0)
def paysD : List Pay → Nat → Int
  | [], _ => 0
  | x :: l, j => payD x j + paysD l j
/-- A payment between two of so many women. -/
def PayW (w : Nat) (x : Pay) : Prop := ∃ f t : Nat, f < w ∧ t < w ∧ f ≠ t ∧ x.fr = Int.ofNat f ∧ x.to = Int.ofNat t ∧ 1 ≤ x.oz ∧ x.oz ≤ 240
theorem paysD_append : ∀ (l l' : List Pay) (j : Nat), paysD (l ++ l') j = paysD l j + paysD l' j
  | [], l', j => by simp [paysD]
  | x :: l, l', j => by simp only [List.cons_append, paysD, paysD_append l l' j]; omega
theorem payD_mk (f t : Nat) (n : Int) (j : Nat) : payD ⟨Int.ofNat f, Int.ofNat t, n⟩ j = dl f n j - dl t n j := by
  unfold payD dl
  simp only [Int.ofNat_eq_natCast, Int.ofNat_inj]

def sumL (a : Nat → Int) : List Nat → Int
  | [] => 0
  | j :: l => a j + sumL a l
theorem sumL_put {a : Nat → Int} {x : Nat} (v : Int) : ∀ {gs : List Nat}, gs.Nodup → x ∈ gs → sumL (put a x v) gs = sumL a gs - a x + v
  | [], _, h => by simp at h
  | y :: gs, hn, h => by
    rw [List.nodup_cons] at hn
    simp only [sumL]
    by_cases hy : y = x
    · subst hy
      have : sumL (put a y v) gs = sumL a gs := by
        have : ∀ l : List Nat, y ∉ l → sumL (put a y v) l = sumL a l := by
          intro l
          induction l with
          | nil => intro _; rfl
          | cons z l ih =>
            intro hz
            simp only [List.mem_cons, not_or] at hz
            simp only [sumL, ih hz.2, put, if_neg (Ne.symm hz.1)]
        exact this gs hn.1
      rw [this]; simp only [put, if_true]; omega
    · have hx : x ∈ gs := by
        rcases List.mem_cons.mp h with h | h
        · exact absurd h.symm hy
        · exact h
      rw [sumL_put v hn.2 hx]; simp only [put, if_neg hy]; omega
theorem openC_zero {a : Nat → Int} : ∀ {gs : List Nat}, openC a gs = 0 ↔ ∀ j ∈ gs, a j = 0
  | [] => by simp [openC]
  | y :: gs => by
    have ih := openC_zero (a := a) (gs := gs)
    simp only [openC, List.mem_cons, forall_eq_or_imp]
    by_cases h : a y = 0
    · simp only [h, if_true, true_and]; rw [← ih]; omega
    · rw [if_neg h]; exact ⟨fun h' => by omega, fun h' => absurd h'.1 h⟩
theorem find_none {gs : List Nat} {P : Nat → Bool} (h : gs.findIdx? P = none) : ∀ j ∈ gs, P j = false := by
  simpa using h
theorem sum_zero_neg {a : Nat → Int} : ∀ {gs : List Nat}, (∀ j ∈ gs, 0 ≤ a j) → 0 ≤ sumL a gs ∧ (sumL a gs = 0 → ∀ j ∈ gs, a j = 0)
  | [], _ => by simp [sumL]
  | y :: gs, h => by
    have ih := sum_zero_neg (a := a) (gs := gs) fun j hj => h j (by simp [hj])
    have hy := h y (by simp)
    simp only [sumL]
    refine ⟨by omega, fun hz j hj => ?_⟩
    rcases List.mem_cons.mp hj with hj | hj
    · subst hj; omega
    · exact ih.2 (by omega) j hj
theorem sum_zero_pos {a : Nat → Int} : ∀ {gs : List Nat}, (∀ j ∈ gs, a j ≤ 0) → sumL a gs ≤ 0 ∧ (sumL a gs = 0 → ∀ j ∈ gs, a j = 0)
  | [], _ => by simp [sumL]
  | y :: gs, h => by
    have ih := sum_zero_pos (a := a) (gs := gs) fun j hj => h j (by simp [hj])
    have hy := h y (by simp)
    simp only [sumL]
    refine ⟨by omega, fun hz j hj => ?_⟩
    rcases List.mem_cons.mp hj with hj | hj
    · subst hj; omega
    · exact ih.2 (by omega) j hj
/-- What settleF does to a group whose sum is 0. -/
theorem settleF_law {gs : List Nat} (hn : gs.Nodup) {w : Nat} (hw : ∀ j ∈ gs, j < w) : ∀ (f : Nat) (a : Nat → Int), openC a gs < f → (∀ j, -240 ≤ a j ∧ a j ≤ 240) → sumL a gs = 0 →
    (∀ x ∈ settleF f a gs, PayW w x) ∧ (∀ j ∈ gs, a j + paysD (settleF f a gs) j = 0) ∧ (∀ j, j ∉ gs → paysD (settleF f a gs) j = 0) ∧ (settleF f a gs).length ≤ openC a gs - 1 := by
  intro f
  induction f with
  | zero => intro a h; omega
  | succ f ih =>
    intro a hf hs hz
    have done : (∀ j ∈ gs, a j = 0) → (∀ x ∈ ([] : List Pay), PayW w x) ∧ (∀ j ∈ gs, a j + paysD [] j = 0) ∧ (∀ j, j ∉ gs → paysD [] j = 0) ∧ ([] : List Pay).length ≤ openC a gs - 1 := by
      intro h
      refine ⟨by simp, fun j hj => by rw [h j hj]; rfl, fun _ _ => rfl, by simp⟩
    rw [settleF]
    cases h1 : gs.findIdx? (fun j => decide (a j < 0)) with
    | none =>
      simp only
      refine done fun j hj => (sum_zero_neg fun j hj => ?_).2 hz j hj
      have := find_none h1 j hj
      simp only [decide_eq_false_iff_not] at this; omega
    | some i =>
      cases h2 : gs.findIdx? (fun j => decide (0 < a j)) with
      | none =>
        simp only
        refine done fun j hj => (sum_zero_pos fun j hj => ?_).2 hz j hj
        have := find_none h2 j hj
        simp only [decide_eq_false_iff_not] at this; omega
      | some k =>
        obtain ⟨hil, hia⟩ := find_get h1
        obtain ⟨hkl, hka⟩ := find_get h2
        simp only [decide_eq_true_eq] at hia hka
        have gx : gs.getD i 0 = gs[i] := by simp [hil]
        have gy : gs.getD k 0 = gs[k] := by simp [hkl]
        simp only [gx, gy]
        have mx' : gs[i] ∈ gs := List.getElem_mem hil
        have my' : gs[k] ∈ gs := List.getElem_mem hkl
        generalize gs[i] = x at hia mx' ⊢
        generalize gs[k] = y at hka my' ⊢
        have hxy : x ≠ y := fun h => by subst h; omega
        have sx := hs x
        have sy := hs y
        have hn2 : mn (-a x) (a y) = -a x ∨ mn (-a x) (a y) = a y := by unfold mn; omega
        have hnp : 0 < mn (-a x) (a y) ∧ mn (-a x) (a y) ≤ -a x ∧ mn (-a x) (a y) ≤ a y := by unfold mn; omega
        generalize mn (-a x) (a y) = n at hn2 hnp ⊢
        have hpy : put a x (a x + n) y = a y := by simp [put, Ne.symm hxy]
        rw [hpy]
        have v : ∀ j, put (put a x (a x + n)) y (a y - n) j = a j + (dl x n j - dl y n j) := by
          intro j
          unfold put dl
          by_cases h2 : j = y
          · subst h2; simp only [if_true, if_neg hxy]; omega
          · by_cases h3 : j = x
            · subst h3; simp only [if_true, if_neg h2, if_neg (Ne.symm h2)]; omega
            · simp only [if_neg h2, if_neg h3, if_neg (Ne.symm h2), if_neg (Ne.symm h3)]; omega
        have hle : openC (put (put a x (a x + n)) y (a y - n)) gs < openC a gs := by
          rcases hn2 with h | h
          · refine openC_lt (fun j _ hj => ?_) mx' (by omega) ?_
            · have h1 : j ≠ x := fun h => by subst h; omega
              have h2 : j ≠ y := fun h => by subst h; omega
              simp [put, h1, h2, hj]
            · simp [put, hxy]; omega
          · refine openC_lt (fun j _ hj => ?_) my' (by omega) ?_
            · have h1 : j ≠ x := fun h => by subst h; omega
              have h2 : j ≠ y := fun h => by subst h; omega
              simp [put, h1, h2, hj]
            · simp only [put, if_true]; omega
        have h2o : 2 ≤ openC a gs := by
          have h1 : openC (put a x 0) gs < openC a gs := openC_lt (fun j _ hj => by unfold put; split <;> simp [hj]) mx' (by omega) (by simp [put])
          have h2 : openC (put a x 0) gs ≠ 0 := fun h => by
            have := openC_zero.1 h y my'
            simp only [put, if_neg (Ne.symm hxy)] at this; omega
          omega
        have hsum : sumL (put (put a x (a x + n)) y (a y - n)) gs = 0 := by
          rw [sumL_put _ hn my', sumL_put _ hn mx', hpy]; omega
        obtain ⟨i1, i2, i3, i4⟩ := ih (put (put a x (a x + n)) y (a y - n)) (by omega) (fun j => by
          rw [v]; unfold dl
          have := hs j
          by_cases h2 : y = j
          · subst h2; simp only [if_true, if_neg hxy]; omega
          · by_cases h3 : x = j
            · subst h3; simp only [if_true, if_neg h2]; omega
            · simp only [if_neg h2, if_neg h3]; omega) hsum
        refine ⟨?_, ?_, ?_, ?_⟩
        · intro p hp
          rcases List.mem_cons.mp hp with hp | hp
          · subst hp
            exact ⟨x, y, hw x mx', hw y my', hxy, rfl, rfl, by simp only; omega, by simp only; omega⟩
          · exact i1 p hp
        · intro j hj
          have := i2 j hj
          rw [v] at this
          rw [paysD, payD_mk]; omega
        · intro j hj
          have hjx : x ≠ j := fun h => by subst h; exact hj mx'
          have hjy : y ≠ j := fun h => by subst h; exact hj my'
          rw [paysD, payD_mk, i3 j hj]; unfold dl; rw [if_neg hjx, if_neg hjy]; rfl
        · simp only [List.length_cons]
          omega

theorem nats_bits {g : Nat} (hg : g < 64) : nats (bitsOf g) = (List.range 6).filter g.testBit := by
  rw [bits_list g hg]
  unfold nats ints
  rw [List.map_map]
  have : (Int.toNat ∘ Int.ofNat) = id := rfl
  rw [this, List.map_id]
theorem sumL_filter (a : Nat → Int) (g : Nat) : ∀ l : List Nat, sumL a (l.filter g.testBit) = psl a g l
  | [] => rfl
  | i :: l => by
    rw [psl]
    unfold term
    by_cases h : g.testBit i = true
    · rw [List.filter_cons_of_pos h, sumL, sumL_filter a g l, if_pos h]
    · rw [List.filter_cons_of_neg h, sumL_filter a g l, if_neg h]; omega
theorem psl_6 (a : Nat → Int) (g : Nat) : psl a g (List.range 6) = ps a g := by
  show psl _ _ [0, 1, 2, 3, 4, 5] = _
  simp only [psl, ps]; omega
theorem pc_sub : ∀ w, w < 64 → ∀ g, g < 64 → band g w = g → pc g + pc (bsub w g) = pc w := by
  have h : ((List.range 64).all fun w => (List.range 64).all fun g => (!decide (band g w = g) || decide (pc g + pc (bsub w g) = pc w))) = true := by kernel_rfl
  intro w hw g hg h2
  rw [List.all_eq_true] at h
  have h4 := h w (by simpa using hw)
  rw [List.all_eq_true] at h4
  have h5 := h4 g (by simpa using hg)
  simpa [h2] using h5
theorem pc_pos : ∀ w, w < 64 → w ≠ 0 → 0 < pc w := by
  have h : ((List.range 64).all fun w => decide (w = 0) || decide (0 < pc w)) = true := by kernel_rfl
  intro w hw h0
  rw [List.all_eq_true] at h
  have h1 := h w (by simpa using hw)
  simpa [h0] using h1
theorem settleG_law {a : Nat → Int} {g w : Nat} (hg : g < 64) (hw : ∀ j, g.testBit j = true → j < w) (hs : ∀ j, -240 ≤ a j ∧ a j ≤ 240) (hz : ps a g = 0) :
    (∀ x ∈ settleG a (bitsOf g), PayW w x) ∧ (∀ j, g.testBit j = true → a j + paysD (settleG a (bitsOf g)) j = 0) ∧ (∀ j, g.testBit j = false → paysD (settleG a (bitsOf g)) j = 0) ∧ (settleG a (bitsOf g)).length ≤ pc g - 1 := by
  unfold settleG
  rw [nats_bits hg]
  have hm : ∀ j, j ∈ (List.range 6).filter g.testBit ↔ g.testBit j = true := by
    intro j
    rw [List.mem_filter, List.mem_range]
    exact ⟨fun h => h.2, fun h => ⟨bit_lt6 hg h, h⟩⟩
  have hl : ((List.range 6).filter g.testBit).length = pc g := by unfold pc; rw [bits_list g hg]; simp [ints]
  have ho := openC_len a ((List.range 6).filter g.testBit)
  have h6 := (pc_facts g hg).1
  obtain ⟨h1, h2, h3, h4⟩ := settleF_law (gs := (List.range 6).filter g.testBit) (List.nodup_range.sublist List.filter_sublist) (w := w) (fun j hj => hw j ((hm j).1 hj)) 1000 a (by omega) hs (by rw [sumL_filter, psl_6]; exact hz)
  refine ⟨h1, fun j hj => h2 j ((hm j).2 hj), fun j hj => h3 j (fun h => by rw [(hm j).1 h] at hj; cases hj), by omega⟩
theorem settle_groups {a : Nat → Int} {w : Nat} (hs : ∀ j, -240 ≤ a j ∧ a j ≤ 240) : ∀ {gs : List Nat} {left : Nat}, left < 64 → (∀ j, left.testBit j = true → j < w) → GrpsOk (ps a) left gs →
    (∀ x ∈ (gs.map bitsOf).flatMap (settleG a), PayW w x) ∧ (∀ j, left.testBit j = true → a j + paysD ((gs.map bitsOf).flatMap (settleG a)) j = 0) ∧ (∀ j, left.testBit j = false → paysD ((gs.map bitsOf).flatMap (settleG a)) j = 0) ∧ ((gs.map bitsOf).flatMap (settleG a)).length + gs.length ≤ pc left
  | [], left, _, _, h => by
    obtain rfl : left = 0 := h
    exact ⟨by simp, fun j hj => by simp at hj, fun _ _ => rfl, by simp⟩
  | g :: gs, left, hl, hw, h => by
    obtain ⟨h1, h2, h3, h4⟩ := h
    have hsb := band_sb h2
    have hg : g < 64 := Nat.lt_of_le_of_lt hsb.le hl
    have hrest : bsub left g < 64 := Nat.lt_of_le_of_lt (sb_sub _ _).le hl
    obtain ⟨a1, a2, a3, a4⟩ := settleG_law (a := a) (w := w) hg (fun j hj => hw j (hsb j hj)) hs h3
    obtain ⟨b1, b2, b3, b4⟩ := settle_groups (a := a) (w := w) hs hrest (fun j hj => hw j (sb_sub _ _ j hj)) h4
    have hpc := pc_sub left hl g hg h2
    have hpp := pc_pos g hg h1
    rw [List.map_cons, List.flatMap_cons]
    refine ⟨?_, ?_, ?_, ?_⟩
    · intro x hx
      rcases List.mem_append.mp hx with hx | hx
      · exact a1 x hx
      · exact b1 x hx
    · intro j hj
      rw [paysD_append]
      cases hgj : g.testBit j with
      | true =>
        have hf : (bsub left g).testBit j = false := by rw [bsub_t, hgj]; simp
        have := a2 j hgj
        rw [b3 j hf]; omega
      | false =>
        have hf : (bsub left g).testBit j = true := by rw [bsub_t, hgj, hj]; rfl
        have := b2 j hf
        rw [a3 j hgj]; omega
    · intro j hj
      have hgj : g.testBit j = false := by
        cases h : g.testBit j with
        | false => rfl
        | true => rw [hsb j h] at hj; cases hj
      have hf : (bsub left g).testBit j = false := by rw [bsub_t, hj]; rfl
      rw [paysD_append, a3 j hgj, b3 j hf]; rfl
    · rw [List.length_append, List.length_cons]; omega

theorem Part.single : ∀ {a : Nat → Int}, (∀ j, j < 6 → a j = 0) → Part a 63 6 := by
  intro a h
  have key : ∀ {w n : Nat} (i : Nat), i < 6 → w.testBit i = true → Part a (bsub w (pw i)) n → Part a w (n + 1) := by
    intro w n i hi hb hp
    refine .cons (g := pw i) (bit_ne (i := i) (by rw [pw_t]; simp)) (sb_pw hb) ?_ hp
    have ht : ∀ k, k < 6 → term a (pw i) k = 0 := by
      intro k hk; unfold term; split
      · exact h k hk
      · rfl
    unfold ps
    rw [ht 0 (by omega), ht 1 (by omega), ht 2 (by omega), ht 3 (by omega), ht 4 (by omega), ht 5 (by omega)]; rfl
  refine key (n := 5) 0 (by omega) (by rfl) ?_
  refine key (n := 4) 1 (by omega) (by rfl) ?_
  refine key (n := 3) 2 (by omega) (by rfl) ?_
  refine key (n := 2) 3 (by omega) (by rfl) ?_
  refine key (n := 1) 4 (by omega) (by rfl) ?_
  refine key (n := 0) 5 (by omega) (by rfl) ?_
  exact .nil
/-- Groups of what is owed after a payment make groups of what is owed before it: two are joined at most. -/
theorem Part.unpay {a : Nat → Int} {f t : Nat} (hf : f < 6) (ht : t < 6) {x : Int} {n : Nat} (h : Part (mv a f t x) 63 n) : ∃ m, n ≤ m + 1 ∧ Part a 63 m := by
  obtain ⟨g, m, rfl, h1, h2, h3, h4⟩ := h.extract f (test63 hf)
  by_cases hgt : g.testBit t = true
  · refine ⟨m + 1, by omega, .cons (bit_ne h2) h1 ?_ (h4.congr fun i hi hb => ?_)⟩
    · rw [ps_mv a hf ht, if_pos h2, if_pos hgt] at h3; omega
    · rw [bsub_t] at hb
      have hif : f ≠ i := fun h => by subst h; rw [h2] at hb; simp at hb
      have hit : t ≠ i := fun h => by subst h; rw [hgt] at hb; simp at hb
      unfold mv dl; rw [if_neg hif, if_neg hit]; omega
  · have htr : (bsub 63 g).testBit t = true := by rw [bsub_t, test63 ht]; simp [hgt]
    obtain ⟨g', m', rfl, k1, k2, k3, k4⟩ := h4.extract t htr
    have hgf : g'.testBit f = false := by
      cases h : g'.testBit f with
      | false => rfl
      | true =>
        have := k1 f h
        rw [bsub_t, h2] at this; simp at this
    have hd : Dj g g' := fun i hi => by
      cases h : g'.testBit i with
      | false => rfl
      | true =>
        have := k1 i h
        rw [bsub_t, hi] at this; simp at this
    refine ⟨m' + 1, by omega, .cons (g := bor g g') (bit_ne (i := f) (by rw [bor_t, h2]; rfl)) ?_ ?_ ?_⟩
    · intro i hi
      rw [bor_t, Bool.or_eq_true] at hi
      rcases hi with hi | hi
      · exact h1 i hi
      · exact sb_sub _ _ i (k1 i hi)
    · rw [ps_or a hd]
      rw [ps_mv a hf ht, if_pos h2, if_neg hgt] at h3
      rw [ps_mv a hf ht, hgf, if_pos k2] at k3
      simp only [Bool.false_eq_true, if_false] at k3
      omega
    · rw [sub_or]
      refine k4.congr fun i hi hb => ?_
      rw [bsub_t, bsub_t, Bool.and_eq_true, Bool.and_eq_true] at hb
      have hif : f ≠ i := fun h => by subst h; rw [h2] at hb; simp at hb
      have hit : t ≠ i := fun h => by subst h; rw [k2] at hb; simp at hb
      unfold mv dl; rw [if_neg hif, if_neg hit]; omega
theorem part_pays : ∀ {l : List Pay} {a : Nat → Int}, (∀ x ∈ l, PayW 6 x) → (∀ j, j < 6 → a j + paysD l j = 0) → ∃ n, 6 ≤ n + l.length ∧ Part a 63 n
  | [], a, _, h => ⟨6, by simp, .single fun j hj => by have := h j hj; simpa [paysD] using this⟩
  | x :: l, a, hp, h => by
    obtain ⟨f, t, hf, ht, hne, e1, e2, _, _⟩ := hp x (by simp)
    obtain ⟨n, h1, h2⟩ := part_pays (l := l) (a := mv a f t x.oz) (fun y hy => hp y (by simp [hy])) (fun j hj => by
      have := h j hj
      rw [paysD] at this
      unfold payD at this
      rw [e1, e2] at this
      simp only [Int.ofNat_eq_natCast, Int.ofNat_inj] at this
      unfold mv dl; omega)
    obtain ⟨m, h3, h4⟩ := h2.unpay hf ht
    exact ⟨m, by simp only [List.length_cons]; omega, h4⟩
/-- Women who are owed 0 are left out of groups. -/
theorem Part.open {a : Nat → Int} {w n : Nat} (h : Part a w n) : w < 64 → ∃ m, Part a (band w (openN a)) m ∧ n + pc (band w (openN a)) ≤ m + pc w := by
  induction h with
  | nil => intro _; exact ⟨0, by rw [show band 0 (openN a) = 0 from by unfold band; simp]; exact .nil, by rw [show band 0 (openN a) = 0 from by unfold band; simp]; omega⟩
  | @cons w g n h0 hs hz h ih =>
    intro hw
    have hg : g < 64 := Nat.lt_of_le_of_lt hs.le hw
    have hr : bsub w g < 64 := Nat.lt_of_le_of_lt (sb_sub w g).le hw
    obtain ⟨m, h1, h2⟩ := ih hr
    have hbl : ∀ u, u < 64 → band u (openN a) < 64 := fun u hu => Nat.lt_of_le_of_lt Nat.and_le_left hu
    have e1 : bsub (band w (openN a)) (band g (openN a)) = band (bsub w g) (openN a) := by
      apply Nat.eq_of_testBit_eq
      intro i
      simp only [bsub_t, band_t]
      cases w.testBit i <;> cases g.testBit i <;> cases (openN a).testBit i <;> rfl
    have s1 : Sb (band g (openN a)) (band w (openN a)) := by
      intro i hi
      rw [band_t, Bool.and_eq_true] at hi
      rw [band_t, hs i hi.1, hi.2]; rfl
    have c1 := pc_sub w hw g hg (sb_band hs)
    have c2 := pc_sub (band w (openN a)) (hbl w hw) (band g (openN a)) (hbl g hg) (sb_band s1)
    have hgo : pc (band g (openN a)) ≤ pc g := by
      have h3 : Sb (band g (openN a)) g := fun i hi => by rw [band_t, Bool.and_eq_true] at hi; exact hi.1
      have := pc_sub g hg (band g (openN a)) (hbl g hg) (sb_band h3)
      omega
    have hpz : ps a (band g (openN a)) = ps a g := by
      have ht : ∀ i, i < 6 → term a (band g (openN a)) i = term a g i := by
        intro i hi
        unfold term
        rw [band_t, open_t]
        by_cases h : a i = 0
        · simp [h]
        · simp [h, hi]
      unfold ps
      rw [ht 0 (by omega), ht 1 (by omega), ht 2 (by omega), ht 3 (by omega), ht 4 (by omega), ht 5 (by omega)]
    rw [e1] at c2
    by_cases hgz : band g (openN a) = 0
    · refine ⟨m, ?_, ?_⟩
      · have : band w (openN a) = band (bsub w g) (openN a) := by
          rw [← e1, hgz]
          apply Nat.eq_of_testBit_eq
          intro i; rw [bsub_t]; simp
        rw [this]; exact h1
      · have := pc_pos g hg h0
        rw [hgz] at c2
        have : pc 0 = 0 := rfl
        omega
    · exact ⟨m + 1, .cons hgz s1 (by rw [hpz]; exact hz) (by rw [e1]; exact h1), by omega⟩
theorem pc_63 : pc 63 = 6 := rfl
/-- No payments that settle all are fewer than women who are not owed 0, less the most groups. -/
theorem pays_least {a : Nat → Int} (hs : Small a) {l : List Pay} (hp : ∀ x ∈ l, PayW 6 x) (h : ∀ j, j < 6 → a j + paysD l j = 0) : pc (openN a) ≤ l.length + mostN a (openN a) := by
  obtain ⟨n, h1, h2⟩ := part_pays hp h
  obtain ⟨m, h3, h4⟩ := h2.open (by omega)
  have ho := openN_lt a
  have he : band 63 (openN a) = openN a := by
    apply Nat.eq_of_testBit_eq
    intro i
    rw [band_t]
    cases hi : (openN a).testBit i with
    | false => simp
    | true => rw [test63 (bit_lt6 ho hi)]; rfl
  rw [he] at h3 h4
  have h5 := most_ge hs h3 ho
  rw [pc_63] at h4
  omega
/-- What Settle returns settles all, and is as short as can be. -/
theorem settleA_law {a : Nat → Int} {w : Nat} (hw : w ≤ 6) (hs : ∀ j, -240 ≤ a j ∧ a j ≤ 240) (hz : ps a 63 = 0) (ho : ∀ j, w ≤ j → a j = 0) :
    (∀ x ∈ settleA a, PayW w x) ∧ (∀ j, a j + paysD (settleA a) j = 0) ∧ (settleA a).length + mostN a (openN a) = pc (openN a) := by
  have hsm : Small a := fun j => by have := hs j; omega
  obtain ⟨gs, h1, h2, h3⟩ := groups_law hsm (T := ps a) (fun _ _ => rfl) (by rw [open_ps]; exact hz)
  have hwo : ∀ j, (openN a).testBit j = true → j < w := by
    intro j hj
    rw [open_t, decide_eq_true_eq] at hj
    rcases Nat.lt_or_ge j w with h | h
    · exact h
    · exact absurd (ho j h) hj.2
  obtain ⟨a1, a2, a3, a4⟩ := settle_groups (a := a) (w := w) hs (openN_lt a) hwo h2
  have hA : settleA a = (gs.map bitsOf).flatMap (settleG a) := by unfold settleA; rw [h1]
  rw [← hA] at a1 a2 a3 a4
  have key : ∀ j, a j + paysD (settleA a) j = 0 := by
    intro j
    cases hj : (openN a).testBit j with
    | true => exact a2 j hj
    | false =>
      rw [a3 j hj]
      rw [open_t, decide_eq_false_iff_not] at hj
      rcases Nat.lt_or_ge j 6 with h | h
      · have : a j = 0 := by
          by_cases h0 : a j = 0
          · exact h0
          · exact absurd ⟨h, h0⟩ hj
        omega
      · rw [ho j (by omega)]; rfl
  refine ⟨a1, key, ?_⟩
  have h6 : ∀ x ∈ settleA a, PayW 6 x := fun x hx => by
    obtain ⟨f, t, h1, h2, h3⟩ := a1 x hx
    exact ⟨f, t, by omega, by omega, h3⟩
  have := pays_least hsm h6 (fun j _ => key j)
  omega
end Go.Proofs.Ytlhfeiacigmliaa

/- The plain law of groups and payments of a slate that is valid, with ounces. -/
namespace Go.Proofs.Ytlhfeiacigmliaa
open Go
set_option maxRecDepth 100000

theorem ow240 {S : Slate} {L : List Int} (hc : checkSlate S = 0) (ha : areOz S.es L = true) : ∀ j, -240 ≤ owV S.es L j ∧ owV S.es L j ≤ 240 := by
  have hG := good_of_check hc
  intro j
  rw [owV_plain hG ha]
  have := ow_le (okw_of_check hc) hG.oe ha j
  have := hG.e6
  omega
theorem ow_far {S : Slate} {L : List Int} (hc : checkSlate S = 0) (ha : areOz S.es L = true) : ∀ j, S.women.toNat ≤ j → owV S.es L j = 0 := by
  intro j hj
  rw [owV_plain (good_of_check hc) ha]
  exact ow_out (okw_of_check hc) j hj
theorem ow_zero {S : Slate} {L : List Int} (hc : checkSlate S = 0) (ha : areOz S.es L = true) : ps (owV S.es L) 63 = 0 := by
  have hG := good_of_check hc
  have h6 := hG.w6
  rw [owV_plain hG ha]
  exact ow_sum (w := S.women.toNat) (by omega) (okw_of_check hc)
theorem play_facts {S : Slate} {L : List Int} (hc : checkSlate S = 0) (ha : areOz S.es L = true) : playErr S L = 0 ∧ playOw S L = owV S.es L ∧ playL S L = l6 (owV S.es L) S.women.toNat := by
  have hE : playErr S L = 0 := by unfold playErr; rw [if_neg (by simp [hc]), ha, if_pos rfl]
  have ho : playOw S L = owV S.es L := by unfold playOw; rw [if_pos ⟨hc, ha⟩]
  exact ⟨hE, ho, by unfold playL; rw [if_pos hE, ho]⟩
theorem settle_facts {S : Slate} {L : List Int} (hc : checkSlate S = 0) (ha : areOz S.es L = true) :
    (∀ x ∈ settleP S L, PayW S.women.toNat x) ∧ (∀ j, owV S.es L j + paysD (settleP S L) j = 0) ∧ Int.ofNat (settleP S L).length = payR S L ∧ (settleP S L).length + mostN (owV S.es L) (openN (owV S.es L)) = pc (openN (owV S.es L)) := by
  obtain ⟨hE, ho, _⟩ := play_facts hc ha
  have hG := good_of_check hc
  have hp : settleP S L = settleA (owV S.es L) := by unfold settleP; rw [if_pos hE, ho]
  obtain ⟨h1, h2, h3⟩ := settleA_law (w := S.women.toNat) (by have := hG.w6; omega) (ow240 hc ha) (ow_zero hc ha) (ow_far hc ha)
  rw [hp]
  refine ⟨h1, h2, ?_, h3⟩
  rw [← payV_same hc ha]
  unfold payV
  have hl : lenOf (bitsOf (openN (owV S.es L))) = pc (openN (owV S.es L)) := rfl
  have := (pc_facts _ (openN_lt (owV S.es L))).1
  simp only [Int.ofNat_eq_natCast]
  rw [hl, fold_sub, wr_in] <;> omega
end Go.Proofs.Ytlhfeiacigmliaa

/- The wash-house's soap: what the functions compute: equal lists, in the heap too. -/
namespace Go.Proofs.Ytlhfeiacigmliaa
open Go
set_option maxRecDepth 10000

/-- A value that reads as a list of numbers. -/
structure RdI (s : St) (x : AVal) (L : List Int) : Prop where
  nrm : x.norm = x
  len : lenV x s = some (i64 (Int.ofNat (lenOf L)), s)
  get : ∀ (i : Nat) (v : Int), L[i]? = some v → ∃ r, idxV 1 x (i64 (Int.ofNat i)) s = some (r, s) ∧ look1 s r = some (i64 v)
end Go.Proofs.Ytlhfeiacigmliaa

/- The wash-house's soap: what the functions compute: payments of the other package, ranges in ranges, slates that are closer. -/
namespace Go.Proofs.Ytlhfeiacigmliaa
open Go
set_option maxRecDepth 10000

/-- The first slate's answers are as close as the second one's. -/
structure CloserOk (X S : Slate) : Prop where
  ex : askedErr X = 0
  es : askedErr S = 0
  xl : X.es.length < 1000000 ∧ X.ss.length < 1000000
  sl : S.es.length < 1000000 ∧ S.ss.length < 1000000
  bl : (boundsL X).length < 1000000 ∧ (boundsL X).length = (boundsL S).length
  bo : ∀ (i : Nat) (x y : Rng), (boundsL X)[i]? = some x → (boundsL S)[i]? = some y → y.lo ≤ x.lo ∧ x.hi ≤ y.hi
  ow : ∀ (i : Nat) (x y : Int), ((boundsL S).map owesF)[i]? = some x → ((boundsL X).map owesF)[i]? = some y → x = 3 ∨ x = y
  fw : (fewestP S).1 ≤ (fewestP X).1 ∧ (fewestP X).2 ≤ (fewestP S).2
end Go.Proofs.Ytlhfeiacigmliaa

/- The wash-house's soap: what the functions compute: whether payments settle all, by both packages. -/
namespace Go.Proofs.Ytlhfeiacigmliaa
open Go
set_option maxRecDepth 10000

end Go.Proofs.Ytlhfeiacigmliaa

/- The plain law of payments that settle: by the program as by the document. -/
namespace Go.Proofs.Ytlhfeiacigmliaa
open Go
set_option maxRecDepth 100000

section
variable {S : Slate} {L : List Int} (hc : checkSlate S = 0) (ha : areOz S.es L = true) {P : List Pay} (hP : P.length ≤ 1000) (hW : ∀ x ∈ P, PayW S.women.toNat x)
include hc ha hP hW
end
end Go.Proofs.Ytlhfeiacigmliaa

/- The plain law of slates that are closer, and of smallest sets beside each other. -/
namespace Go.Proofs.Ytlhfeiacigmliaa
open Go
set_option maxRecDepth 100000

end Go.Proofs.Ytlhfeiacigmliaa

/- The plain law of other slates: with a payment as an entry, with the entries in another order or the other way round, with wider ranges. -/
namespace Go.Proofs.Ytlhfeiacigmliaa
open Go
set_option maxRecDepth 100000

def EntW (w : Nat) (e : Ent) : Prop := (∃ f t : Nat, f < w ∧ t < w ∧ f ≠ t ∧ e.fr = Int.ofNat f ∧ e.to = Int.ofNat t) ∧ 0 ≤ e.oz.lo ∧ e.oz.lo ≤ e.oz.hi ∧ e.oz.hi ≤ 40
theorem entOk_iff {w : Int} (h0 : 0 ≤ w) (h6 : w ≤ 6) {e : Ent} : entOk w e = true ↔ EntW w.toNat e := by
  have hwr : wr .i64 (w - 1) = w - 1 := wr_in (by omega) (by omega)
  simp only [entOk, pair, woman, hwr, Bool.and_eq_true, within_iff, between_iff, Bool.not_eq_true', decide_eq_false_iff_not]
  constructor
  · rintro ⟨⟨⟨a1, a2⟩, ⟨b1, b2⟩, b3⟩, c1⟩
    exact ⟨⟨e.fr.toNat, e.to.toNat, by omega, by omega, by omega, by simp; omega, by simp; omega⟩, c1⟩
  · rintro ⟨⟨f, t, hf, ht, hne, e1, e2⟩, c1⟩
    rw [e1, e2]
    simp only [Int.ofNat_eq_natCast, Int.ofNat_inj]
    exact ⟨⟨⟨by omega, by omega⟩, ⟨by omega, by omega⟩, hne⟩, c1⟩
theorem check_iff {S : Slate} : checkSlate S = 0 ↔ (0 ≤ S.women ∧ S.women ≤ 6 ∧ S.es.length ≤ 6 ∧ S.ss.length ≤ 5) ∧ (∀ e ∈ S.es, EntW S.women.toNat e) ∧ (∀ x ∈ S.ss, sayOk S.women x = true) ∧ prodN S.es ≤ 2000 := by
  constructor
  · intro h
    have hG := good_of_check h
    have hm := many_of_check h
    have hw := okw_of_check h
    refine ⟨⟨hG.w0, hG.w6, hG.e6, hG.s5⟩, fun e he => ⟨hw e he, hG.oe e he⟩, ?_, hm.1⟩
    unfold checkSlate at h
    split at h
    · cases h
    split at h
    · cases h
    rename_i h1 h2
    simp only [Bool.or_eq_true, decide_eq_true_eq, not_or, Bool.not_eq_true', Bool.not_eq_false] at h2
    have h6 := h2.2
    simpa only [allB, List.all_eq_true] using h6
  · rintro ⟨⟨h1, h2, h3, h4⟩, h5, h6, h7⟩
    have ho : OkE S.es := fun e he => (h5 e he).2
    have hm := manyUp_eq S.es 1 ho (by omega) (by omega)
    rw [ofNat_1] at hm
    unfold checkSlate
    rw [if_neg, if_neg, if_neg]
    · rw [hm]; simp only [decide_eq_true_eq, Int.ofNat_eq_natCast]; omega
    · simp only [Bool.or_eq_true, decide_eq_true_eq, not_or, Bool.not_eq_true', Bool.not_eq_false, allB, List.all_eq_true]
      exact ⟨⟨by omega, fun e he => (entOk_iff h1 h2).2 (h5 e he)⟩, h6⟩
    · simp only [Bool.or_eq_true, decide_eq_true_eq, not_or, Int.not_lt]
      omega
theorem prodN_append : ∀ a b : List Ent, prodN (a ++ b) = prodN a * prodN b
  | [], b => by simp [prodN]
  | e :: a, b => by rw [List.cons_append, prodN, prodN, prodN_append a b, Nat.mul_assoc]
theorem owP_append : ∀ {a : List Ent} {L : List Int} (b : List Ent) (M : List Int), L.length = a.length → ∀ j, owP (a ++ b) (L ++ M) j = owP a L j + owP b M j
  | [], [], b, M, _, j => by simp [owP]
  | [], _ :: _, _, _, h, _ => by simp at h
  | _ :: _, [], _, _, h, _ => by simp at h
  | e :: a, x :: L, b, M, h, j => by
    simp only [List.length_cons, Nat.add_right_cancel_iff] at h
    rw [List.cons_append, List.cons_append, owP, owP, owP_append b M h]; omega
theorem areOz_append : ∀ {a : List Ent} {L : List Int} (b : List Ent) (M : List Int), L.length = a.length → areOz (a ++ b) (L ++ M) = (areOz a L && areOz b M)
  | [], [], b, M, _ => by simp [areOz]
  | [], _ :: _, _, _, h => by simp at h
  | _ :: _, [], _, _, h => by simp at h
  | e :: a, x :: L, b, M, h => by
    simp only [List.length_cons, Nat.add_right_cancel_iff] at h
    rw [List.cons_append, List.cons_append, areOz, areOz, areOz_append b M h, Bool.and_assoc]
theorem settle_least {S : Slate} {L : List Int} (hc : checkSlate S = 0) (ha : areOz S.es L = true) {P : List Pay} (hW : ∀ x ∈ P, PayW S.women.toNat x) (h : ∀ j, j < 6 → owV S.es L j + paysD P j = 0) : (settleP S L).length ≤ P.length := by
  obtain ⟨_, _, _, p4⟩ := settle_facts hc ha
  have hw6 := (good_of_check hc).w6
  have hs : Small (owV S.es L) := fun j => by have := ow240 hc ha j; omega
  have := pays_least hs (fun x hx => by
    obtain ⟨f, t, h1, h2, h3⟩ := hW x hx
    exact ⟨f, t, by omega, by omega, h3⟩) h
  omega
def addPay (S : Slate) (x : Pay) : Slate := ⟨S.women, S.es ++ [⟨x.fr, x.to, ⟨x.oz, x.oz⟩⟩], S.ss⟩
theorem paysD_split : ∀ {P : List Pay} {x : Pay}, x ∈ P → ∃ Q, (∀ y ∈ Q, y ∈ P) ∧ Q.length + 1 = P.length ∧ ∀ j, paysD P j = payD x j + paysD Q j
  | y :: P, x, h => by
    rcases List.mem_cons.1 h with rfl | h
    · exact ⟨P, fun y hy => by simp [hy], by simp, fun j => rfl⟩
    · obtain ⟨Q, h1, h2, h3⟩ := paysD_split h
      refine ⟨y :: Q, fun z hz => ?_, by simp; omega, fun j => by rw [paysD, paysD, h3]; omega⟩
      rcases List.mem_cons.1 hz with rfl | hz
      · simp
      · simp [h1 z hz]
theorem paid_law {S : Slate} {L : List Int} (hc : checkSlate S = 0) (ha : areOz S.es L = true) (h5 : S.es.length ≤ 5) {x : Pay} (hx : x ∈ settleP S L) (h40 : x.oz ≤ 40) :
    checkSlate (addPay S x) = 0 ∧ areOz (addPay S x).es (L ++ [x.oz]) = true ∧ (settleP (addPay S x) (L ++ [x.oz])).length + 1 = (settleP S L).length := by
  obtain ⟨⟨c1, c2, c3, c4⟩, c5, c6, c7⟩ := check_iff.1 hc
  obtain ⟨p1, p2, _, _⟩ := settle_facts hc ha
  obtain ⟨f, t, x1, x2, x3, x4, x5, x6, x7⟩ := p1 x hx
  have hl := areOz_len ha
  have hcY : checkSlate (addPay S x) = 0 := by
    refine check_iff.2 ⟨⟨c1, c2, by simp [addPay]; omega, c4⟩, fun e he => ?_, c6, ?_⟩
    · simp only [addPay, List.mem_append, List.mem_singleton] at he
      rcases he with he | rfl
      · exact c5 e he
      · exact ⟨⟨f, t, x1, x2, x3, x4, x5⟩, by simp only; omega, by simp, by simp only; omega⟩
    · simp only [addPay]
      rw [prodN_append]
      have : szN x.oz x.oz = 1 := by unfold szN; omega
      simp [prodN, this, c7]
  have haY : areOz (addPay S x).es (L ++ [x.oz]) = true := by
    simp only [addPay]
    rw [areOz_append _ _ hl, ha]
    simp [areOz, within_iff]
  have how : ∀ j, owV (addPay S x).es (L ++ [x.oz]) j = owV S.es L j + payD x j := by
    intro j
    rw [owV_plain (good_of_check hcY) haY, owV_plain (good_of_check hc) ha]
    simp only [addPay]
    rw [owP_append _ _ hl]
    simp only [owP, payD]; omega
  refine ⟨hcY, haY, ?_⟩
  obtain ⟨q1, q2, _, _⟩ := settle_facts hcY haY
  obtain ⟨Q, s1, s2, s3⟩ := paysD_split hx
  have k1 := settle_least hcY haY (P := Q) (fun y hy => p1 y (s1 y hy)) (fun j _ => by
    have := p2 j
    rw [s3] at this
    rw [how]; omega)
  have k2 := settle_least hc ha (P := x :: settleP (addPay S x) (L ++ [x.oz])) (fun y hy => by
    rcases List.mem_cons.1 hy with rfl | hy
    · exact p1 _ hx
    · exact q1 y hy) (fun j _ => by
    have := q2 j
    rw [how] at this
    rw [paysD]; omega)
  simp only [List.length_cons] at k2
  omega
theorem settle_same {S T : Slate} {L M : List Int} (hS : checkSlate S = 0) (aS : areOz S.es L = true) (hT : checkSlate T = 0) (aT : areOz T.es M = true) (h : owV S.es L = owV T.es M) : settleP S L = settleP T M := by
  obtain ⟨e1, o1, _⟩ := play_facts hS aS
  obtain ⟨e2, o2, _⟩ := play_facts hT aT
  unfold settleP
  rw [if_pos e1, if_pos e2, o1, o2, h]
def turnL {α : Type} (b : Nat) (l : List α) : List α := l.drop b ++ l.take b
theorem turn_law {S : Slate} {L : List Int} (hc : checkSlate S = 0) (ha : areOz S.es L = true) (b : Nat) :
    checkSlate ⟨S.women, turnL b S.es, S.ss⟩ = 0 ∧ areOz (turnL b S.es) (turnL b L) = true ∧ owV (turnL b S.es) (turnL b L) = owV S.es L := by
  obtain ⟨⟨c1, c2, c3, c4⟩, c5, c6, c7⟩ := check_iff.1 hc
  have hl := areOz_len ha
  have h1 : (L.drop b).length = (S.es.drop b).length := by simp [hl]
  have h2 : (L.take b).length = (S.es.take b).length := by simp [hl]
  have hcY : checkSlate ⟨S.women, turnL b S.es, S.ss⟩ = 0 := by
    refine check_iff.2 ⟨⟨c1, c2, ?_, c4⟩, fun e he => ?_, c6, ?_⟩
    · simp only [turnL, List.length_append, List.length_drop, List.length_take]; omega
    · simp only [turnL, List.mem_append] at he
      rcases he with he | he
      · exact c5 e (List.mem_of_mem_drop he)
      · exact c5 e (List.mem_of_mem_take he)
    · simp only [turnL]
      rw [prodN_append, Nat.mul_comm, ← prodN_append, List.take_append_drop]; exact c7
  have haY : areOz (turnL b S.es) (turnL b L) = true := by
    unfold turnL
    rw [areOz_append _ _ h1, Bool.and_comm, ← areOz_append _ _ h2, List.take_append_drop, List.take_append_drop]; exact ha
  refine ⟨hcY, haY, ?_⟩
  rw [owV_plain (S := ⟨S.women, turnL b S.es, S.ss⟩) (good_of_check hcY) haY, owV_plain (good_of_check hc) ha]
  funext j
  unfold turnL
  rw [owP_append _ _ h1, Int.add_comm, ← owP_append _ _ h2, List.take_append_drop, List.take_append_drop]
theorem turn_get {α : Type} {l : List α} {n u i : Nat} (hn : l.length = n) (hi : i < n) : (turnL (bmod u n) l)[i]? = l[bmod (i + u) n]? := by
  unfold turnL bmod
  have h0 : u % n < n := Nat.mod_lt _ (by omega)
  have hm : (i + u) % n = if i + u % n < n then i + u % n else i + u % n - n := by
    rw [Nat.add_mod, Nat.mod_eq_of_lt hi]
    split
    · rename_i h; exact Nat.mod_eq_of_lt h
    · rw [Nat.mod_eq_sub_mod (by omega), Nat.mod_eq_of_lt (by omega)]
  rw [hm]
  by_cases h : i + u % n < n
  · rw [if_pos h, List.getElem?_append_left (by rw [List.length_drop]; omega), List.getElem?_drop, Nat.add_comm]
  · rw [if_neg h, List.getElem?_append_right (by rw [List.length_drop]; omega), List.length_drop, List.getElem?_take, if_pos (by omega)]
    congr 1; omega
theorem turn_len {α : Type} (b : Nat) (l : List α) : (turnL b l).length = l.length := by
  unfold turnL
  rw [List.length_append, List.length_drop, List.length_take]; omega
def backE (e : Ent) : Ent := ⟨e.to, e.fr, e.oz⟩
def backP (x : Pay) : Pay := ⟨x.to, x.fr, x.oz⟩
theorem owP_back : ∀ (es : List Ent) (L : List Int) (j : Nat), owP (es.map backE) L j = - owP es L j
  | [], L, j => by simp [owP]
  | _ :: _, [], j => by simp [owP]
  | e :: es, x :: L, j => by rw [List.map_cons, owP, owP, owP_back es L j]; simp only [backE]; omega
theorem areOz_back : ∀ (es : List Ent) (L : List Int), areOz (es.map backE) L = areOz es L
  | [], [] => rfl
  | [], _ :: _ => rfl
  | _ :: _, [] => rfl
  | e :: es, x :: L => by rw [List.map_cons, areOz, areOz, areOz_back es L]; rfl
theorem prodN_back : ∀ es : List Ent, prodN (es.map backE) = prodN es
  | [] => rfl
  | e :: es => by rw [List.map_cons, prodN, prodN, prodN_back es]; rfl
theorem paysD_back : ∀ (P : List Pay) (j : Nat), paysD (P.map backP) j = - paysD P j
  | [], _ => rfl
  | x :: P, j => by rw [List.map_cons, paysD, paysD, paysD_back P j]; simp only [payD, backP]; omega
theorem back_check {S : Slate} (hc : checkSlate S = 0) : checkSlate ⟨S.women, S.es.map backE, S.ss⟩ = 0 := by
  obtain ⟨⟨c1, c2, c3, c4⟩, c5, c6, c7⟩ := check_iff.1 hc
  refine check_iff.2 ⟨⟨c1, c2, by simpa using c3, c4⟩, fun e he => ?_, c6, by simp only; rw [prodN_back]; exact c7⟩
  simp only [List.mem_map] at he
  obtain ⟨e', h1, rfl⟩ := he
  obtain ⟨⟨f, t, h2, h3, h4, h5, h6⟩, h7⟩ := c5 e' h1
  exact ⟨⟨t, f, h3, h2, Ne.symm h4, h6, h5⟩, h7⟩
theorem back_back (es : List Ent) : (es.map backE).map backE = es := by
  rw [List.map_map]
  have : backE ∘ backE = id := by funext e; rfl
  rw [this, List.map_id]
theorem back_owV {S : Slate} {L : List Int} (hc : checkSlate S = 0) (ha : areOz S.es L = true) (j : Nat) : owV (S.es.map backE) L j = - owV S.es L j := by
  have hcY := back_check hc
  have haY : areOz (S.es.map backE) L = true := by rw [areOz_back]; exact ha
  rw [owV_plain (S := ⟨S.women, S.es.map backE, S.ss⟩) (good_of_check hcY) haY, owV_plain (good_of_check hc) ha, owP_back]
theorem back_le {S : Slate} {L : List Int} (hc : checkSlate S = 0) (ha : areOz S.es L = true) : (settleP ⟨S.women, S.es.map backE, S.ss⟩ L).length ≤ (settleP S L).length := by
  have hcY := back_check hc
  have haY : areOz (S.es.map backE) L = true := by rw [areOz_back]; exact ha
  obtain ⟨p1, p2, _, _⟩ := settle_facts hc ha
  have := settle_least hcY haY (P := (settleP S L).map backP) (fun x hx => by
    rw [List.mem_map] at hx
    obtain ⟨y, hy, rfl⟩ := hx
    obtain ⟨f, t, h2, h3, h4, h5, h6, h7⟩ := p1 y hy
    exact ⟨t, f, h3, h2, Ne.symm h4, h6, h5, h7⟩) (fun j _ => by
    have := p2 j
    show owV (S.es.map backE) L j + _ = 0
    rw [back_owV hc ha, paysD_back]; omega)
  simpa using this
theorem back_law {S : Slate} {L : List Int} (hc : checkSlate S = 0) (ha : areOz S.es L = true) : (settleP ⟨S.women, S.es.map backE, S.ss⟩ L).length = (settleP S L).length := by
  have h1 := back_le hc ha
  have h2 := back_le (back_check hc) (L := L) (by simp only; rw [areOz_back]; exact ha)
  simp only [back_back] at h2
  have : (⟨S.women, S.es, S.ss⟩ : Slate) = S := rfl
  rw [this] at h2
  omega
end Go.Proofs.Ytlhfeiacigmliaa

/- The wash-house's soap: what the functions compute: payments and sayings by words. -/
namespace Go.Proofs.Ytlhfeiacigmliaa
open Go
set_option maxRecDepth 10000

end Go.Proofs.Ytlhfeiacigmliaa

/- From the evaluator to the rows: arguments beside a slate. -/
namespace Go.Proofs.Ytlhfeiacigmliaa
open Go Go.ChangeShapes Go.RowKit
set_option maxRecDepth 100000
section
variable {H : Type} {enc : TypeId × Value → H} {w : World} {base : Nat}
theorem rel_int {P : Program} {t : TypeId} {kd : IntKind} (hu : P.underlying t = some (.int kd)) {v : Value} {d : DataW H} {p : List MemPlace} (hok : Value.okWide P w .any base t v) (h : DataW.Trod enc P w 0 (fun _ => true) true t v d p) : ∃ n : Int, v = .int kd n ∧ (Lit.int kd n).wf = true := by
  obtain ⟨fuel, h⟩ := h
  unfold Value.okWide at hok
  rw [hu] at hok
  cases fuel with
  | zero => simp [DataW.trod] at h
  | succ fuel =>
    unfold DataW.trod at h
    rw [hu] at h
    cases v with
    | int k n =>
      simp only [Value.cells] at h
      split at h
      · rename_i hc
        obtain ⟨rfl, hw⟩ := hc
        exact ⟨n, rfl, hw⟩
      · cases h
    | agg cs =>
      exfalso
      unfold Cell.okWide at hok
      rw [hu] at hok
      unfold Cell.ok at hok
      rw [hu] at hok
      exact hok
    | _ => simp only [Value.cells] at h; cases h
theorem rel_u8 {v : Value} {d : DataW H} {p : List MemPlace} (hok : Value.okWide Try.prog w .any base 5 v) (h : DataW.Trod enc Try.prog w 0 (fun _ => true) true 5 v d p) : ∃ m : Nat, m < 256 ∧ VRel (rho0 w) (.int .u8 (Int.ofNat m)) v := by
  obtain ⟨n, rfl, hw⟩ := rel_int Try.underlying5 hok h
  simp only [Lit.wf, Bool.and_eq_true, decide_eq_true_eq, show IntKind.min .u8 = 0 from rfl, show IntKind.max .u8 = 255 from rfl] at hw
  obtain ⟨m, rfl⟩ : ∃ m : Nat, n = Int.ofNat m := ⟨n.toNat, by simp; omega⟩
  exact ⟨m, by simp at hw; omega, rfl⟩
theorem rel_u16 {v : Value} {d : DataW H} {p : List MemPlace} (hok : Value.okWide Try.prog w .any base 69 v) (h : DataW.Trod enc Try.prog w 0 (fun _ => true) true 69 v d p) : ∃ m : Nat, m < 65536 ∧ VRel (rho0 w) (.int .u16 (Int.ofNat m)) v := by
  obtain ⟨n, rfl, hw⟩ := rel_int Try.underlying69 hok h
  simp only [Lit.wf, Bool.and_eq_true, decide_eq_true_eq, show IntKind.min .u16 = 0 from rfl, show IntKind.max .u16 = 65535 from rfl] at hw
  obtain ⟨m, rfl⟩ : ∃ m : Nat, n = Int.ofNat m := ⟨n.toNat, by simp; omega⟩
  exact ⟨m, by simp at hw; omega, rfl⟩
end
end Go.Proofs.Ytlhfeiacigmliaa
