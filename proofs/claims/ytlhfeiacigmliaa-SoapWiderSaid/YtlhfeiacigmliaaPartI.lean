/- The wash-house's soap: what the functions compute: the fewest payments' number in all truths. -/
import Derived.Test.YtlhfeiacigmliaaPartH
import Derived.Test.YtlhfeiacigmliaaRows
import Derived.ProofKit
import Derived.Test.YtlhfeiacigmliaaPartG
set_option linter.all false
namespace Go.Proofs.Ytlhfeiacigmliaa
open Go
set_option maxRecDepth 10000

theorem Eff.one {P : (Nat → Int) → List (List AVal × AVal) → Prop} {T : List Purse} (hn : (T.map (·.2)).Nodup) {x : Purse} (hx : x ∈ T) {M : Nat} {Q : List AObj} (hm : MapsOk P T M Q) {M' : Nat} {Q' : List AObj} (h : Eff P [x] M Q M' Q') : Eff P T M Q M' Q' := by
  refine ⟨fun b o hb g => h.keep b o (by simpa using hb x hx) g, fun N0 O0 hN g => h.old N0 O0 (by simpa using hN x hx) g, fun y hy => ?_⟩
  by_cases he : y.2 = x.2
  · have : y = x := by
      obtain ⟨i, hi⟩ := List.mem_iff_getElem?.mp hy
      obtain ⟨k, hk⟩ := List.mem_iff_getElem?.mp hx
      have hl : i < T.length := by
        rcases Nat.lt_or_ge i T.length with h | h
        · exact h
        · rw [List.getElem?_eq_none h] at hi; cases hi
      have h1 : (T.map (·.2))[i]? = (T.map (·.2))[k]? := by simp [hi, hk, he]
      have := (List.getElem?_inj (by simpa using hl) hn).mp h1
      subst this
      rw [hi] at hk; exact Option.some.inj hk
    subst this
    exact h.maps y (by simp)
  · obtain ⟨es, h1, h2⟩ := hm y hy
    exact ⟨es, h.keep y.2 _ (by simpa using he) h1, h2⟩
def payV (a : Nat → Int) : Int := wr .i64 (Int.sub (Int.ofNat (lenOf (bitsOf (openN a)))) (Int.ofNat (mostN a (openN a))))
theorem k84 (a : Nat → Int) (m : Nat) (v : AVal) (p : Nat) (q : Nat → Nat) (M : Nat) (Q : List AObj) (hm : MapsOk Memo [(a, m)] M Q) : ∃ M' Q', Eff Memo [(a, m)] M Q M' Q' ∧ lim tbl (.call 84 [.vref (c7 a m), v]) ⟨M, Q, p, q⟩ = some (.ret, [i64 (payV a)], ⟨M', Q', p, q⟩) := by
  have h110 := fun s => k110 a m s
  have hp60 : pw 60 = 1152921504606846976 := by rfl
  have ho := openN_lt a
  have h113 := fun s => k113 (openN a) (by omega) s
  obtain ⟨M', Q', hE, h112⟩ := k112 a m p q (openN a) ho M Q hm
  refine ⟨M', Q', hE, ?_⟩
  rw [lim_call tbl_84]
  unfold payV
  (try simp only [go_sem, ↓reduceIte, Nat.reduceAdd, Nat.reduceEqDiff, Nat.reduceLT, Nat.reduceLeDiff, Nat.reduceBEq, Int.reduceEq, Int.reduceLT, Int.reduceLE]); (repeat ((first | simp only [h110] | simp only [h113] | rw [h112] | (rw [lt_yes]; rotate_left; (first | omega | (simp [lenOf, app]; omega) | (simp only [lenOf]; omega))) | (rw [lt_no]; rotate_left; (first | omega | (simp [lenOf, app]; omega) | (simp only [lenOf]; omega))) | (rw [idxA_at]; rotate_left; (first | omega | (simp [lenOf, app]; omega) | (simp only [lenOf]; omega))) | (rw [wr_up]; rotate_left; (first | omega | (simp [lenOf, app]; omega) | (simp only [lenOf]; omega))) | ((first | rw [drop_cI] | rw [drop_cE] | rw [drop_cS] | rw [drop_cP] | rw [drop_cR]); rotate_left; assumption)); try simp only [go_sem, ↓reduceIte, Nat.reduceAdd, Nat.reduceEqDiff, Nat.reduceLT, Nat.reduceLeDiff, Nat.reduceBEq, Int.reduceEq, Int.reduceLT, Int.reduceLE]))
def fewestP (S : Slate) : Int × Int := if askedErr S = 0 then pBounds payV (asked S) else (0, 0)
theorem k38 (S : Slate) (s : St) : lim tbl (.call 38 [vSl S]) s = some (.ret, [.tup [.agg [i64 (fewestP S).1, i64 (fewestP S).2], i64 (askedErr S)]], s) := by
  rw [lim_call tbl_38]
  by_cases hc : checkSlate S = 0
  · obtain ⟨N, O, p, q⟩ := s
    obtain ⟨T, M, Q, hv, ho, htw, hm, hnd, hTl, h74⟩ := k74 S hc (na N 1) (.cells [i64 0, i64 0] :: O) p q
    have ho' : OldO N O M Q := ((OldO.refl N O).push _).trans ho
    by_cases hz : asked S = []
    · have he : askedErr S = 11 := by simp [askedErr, hc, hz]
      have hb : fewestP S = (0, 0) := by simp [fewestP, he]
      rw [if_pos hz] at h74
      rw [he, hb]
      have hg : gO M Q N = some (.cells [i64 0, i64 0]) := by
        obtain ⟨h1, h2⟩ := ho
        have h3 : gO (na N 1) (.cells [i64 0, i64 0] :: O) N = some (.cells [i64 0, i64 0]) := gO_new ..
        unfold gO at h3 ⊢
        rw [if_pos (by simp only [na] at h1; omega)]
        rw [if_pos (by simp [na]), ← h2, List.getElem?_drop] at h3
        rw [← h3]; congr 1; simp only [na] at h1 ⊢; omega
      obtain ⟨Q1, s1, _, g1, g2, g3⟩ := gO_set hg (.cells [i64 0, i64 0])
      have e1 : ∀ p' q', St.get ⟨M, Q, p', q'⟩ N = some (.cells [i64 0, i64 0]) := fun _ _ => hg
      have e2 : ∀ p' q', St.get ⟨M, Q1, p', q'⟩ N = some (.cells [i64 0, i64 0]) := fun _ _ => g1
      have hold := (g3 _ _ ho' (Nat.le_refl _)).oldr p q (roomP p (lenOf T)) (lenOf T)
      obtain ⟨w, es, ss⟩ := S
      (try simp only [go_sem, ↓reduceIte, Nat.reduceAdd, Nat.reduceEqDiff, Nat.reduceLT, Nat.reduceLeDiff, Nat.reduceBEq, Int.reduceEq, Int.reduceLT, Int.reduceLE]); (repeat ((first | rw [h74] | rw [e1] | rw [s1] | rw [e2] | rw [hold] | (rw [lt_yes]; rotate_left; (first | omega | (simp [lenOf, app]; omega) | (simp only [lenOf]; omega))) | (rw [lt_no]; rotate_left; (first | omega | (simp [lenOf, app]; omega) | (simp only [lenOf]; omega))) | (rw [idxA_at]; rotate_left; (first | omega | (simp [lenOf, app]; omega) | (simp only [lenOf]; omega))) | (rw [wr_up]; rotate_left; (first | omega | (simp [lenOf, app]; omega) | (simp only [lenOf]; omega))) | ((first | rw [drop_cI] | rw [drop_cE] | rw [drop_cS] | rw [drop_cP] | rw [drop_cR]); rotate_left; assumption)); try simp only [go_sem, ↓reduceIte, Nat.reduceAdd, Nat.reduceEqDiff, Nat.reduceLT, Nat.reduceLeDiff, Nat.reduceBEq, Int.reduceEq, Int.reduceLT, Int.reduceLE]))
    · have he : askedErr S = 0 := by simp [askedErr, hc, hz]
      have hb : fewestP S = pBounds payV (asked S) := by simp [fewestP, he]
      rw [if_neg hz] at h74
      rw [he, hb]
      have hg : gO M Q N = some (.cells [i64 0, i64 0]) := by
        obtain ⟨h1, h2⟩ := ho
        have h3 : gO (na N 1) (.cells [i64 0, i64 0] :: O) N = some (.cells [i64 0, i64 0]) := gO_new ..
        unfold gO at h3 ⊢
        rw [if_pos (by simp only [na] at h1; omega)]
        rw [if_pos (by simp [na]), ← h2, List.getElem?_drop] at h3
        rw [← h3]; congr 1; simp only [na] at h1 ⊢; omega
      have hm' : MapsOk Memo T M Q := fun x hx => ⟨[], (hm x hx).2, fun y hy => by simp at hy⟩
      obtain ⟨w, es, ss⟩ := S
      simp only at htw
      obtain ⟨M1, Q1, h1, h2, h3, hc76⟩ := k76 Memo T 84 0 payV (roomP p (lenOf T)) (roomC p q (lenOf T)) (fun x hx M Q hm => by
        obtain ⟨M', Q', hE, hl⟩ := k84 x.1 x.2 (i64 (Int.ofNat 0)) (roomP p (lenOf T)) (roomC p q (lenOf T)) M Q (fun y hy => by
          simp only [List.mem_singleton] at hy; subst hy; exact hm x hx)
        exact ⟨M', Q', hE.one hnd hx hm, by rw [hl]; rfl⟩) (by omega) p hTl (na N 1) [] _ _ _ M Q htw hm'
      rw [ofNat_0, hv] at hc76
      have hNT : ∀ x ∈ T, N < x.2 := fun x hx => by have := (hm x hx).1; simp only [na] at this; omega
      have hg1 := h1 N _ (fun x hx => Nat.ne_of_lt (hNT x hx)) hg
      generalize pBounds payV (asked ⟨w, es, ss⟩) = R at hc76 ⊢
      obtain ⟨lo, hi⟩ := R
      obtain ⟨Q2, s2, _, g1, g2, g3⟩ := gO_set hg1 (.cells [i64 lo, i64 hi])
      have e1 : ∀ p' q', St.get ⟨M1, Q1, p', q'⟩ N = some (.cells [i64 0, i64 0]) := fun _ _ => hg1
      have e2 : ∀ p' q', St.get ⟨M1, Q2, p', q'⟩ N = some (.cells [i64 lo, i64 hi]) := fun _ _ => g1
      have hold := (g3 _ _ (h2 N O (fun x hx => Nat.le_of_lt (hNT x hx)) ho') (Nat.le_refl _)).oldr p q (roomP p (lenOf T)) (lenOf T)
      simp only at hc76 ⊢
      (try simp only [go_sem, ↓reduceIte, Nat.reduceAdd, Nat.reduceEqDiff, Nat.reduceLT, Nat.reduceLeDiff, Nat.reduceBEq, Int.reduceEq, Int.reduceLT, Int.reduceLE]); (repeat ((first | rw [h74] | rw [hc76] | rw [e1] | rw [s2] | rw [e2] | rw [hold] | (rw [lt_yes]; rotate_left; (first | omega | (simp [lenOf, app]; omega) | (simp only [lenOf]; omega))) | (rw [lt_no]; rotate_left; (first | omega | (simp [lenOf, app]; omega) | (simp only [lenOf]; omega))) | (rw [idxA_at]; rotate_left; (first | omega | (simp [lenOf, app]; omega) | (simp only [lenOf]; omega))) | (rw [wr_up]; rotate_left; (first | omega | (simp [lenOf, app]; omega) | (simp only [lenOf]; omega))) | ((first | rw [drop_cI] | rw [drop_cE] | rw [drop_cS] | rw [drop_cP] | rw [drop_cR]); rotate_left; assumption)); try simp only [go_sem, ↓reduceIte, Nat.reduceAdd, Nat.reduceEqDiff, Nat.reduceLT, Nat.reduceLeDiff, Nat.reduceBEq, Int.reduceEq, Int.reduceLT, Int.reduceLE]))
  · have he : askedErr S = checkSlate S := by simp [askedErr, hc]
    have hb : fewestP S = (0, 0) := by simp [fewestP, he, hc]
    have h74 := fun s => k74n S hc s
    rw [he, hb]
    generalize checkSlate S = c at h74 hc ⊢
    obtain ⟨w, es, ss⟩ := S
    obtain ⟨N, O, p, q⟩ := s
    (try simp only [go_sem, ↓reduceIte, Nat.reduceAdd, Nat.reduceEqDiff, Nat.reduceLT, Nat.reduceLeDiff, Nat.reduceBEq, Int.reduceEq, Int.reduceLT, Int.reduceLE]); (repeat ((first | simp only [h74] | rw [eq_n hc] | (rw [lt_yes]; rotate_left; (first | omega | (simp [lenOf, app]; omega) | (simp only [lenOf]; omega))) | (rw [lt_no]; rotate_left; (first | omega | (simp [lenOf, app]; omega) | (simp only [lenOf]; omega))) | (rw [idxA_at]; rotate_left; (first | omega | (simp [lenOf, app]; omega) | (simp only [lenOf]; omega))) | (rw [wr_up]; rotate_left; (first | omega | (simp [lenOf, app]; omega) | (simp only [lenOf]; omega))) | ((first | rw [drop_cI] | rw [drop_cE] | rw [drop_cS] | rw [drop_cP] | rw [drop_cR]); rotate_left; assumption)); try simp only [go_sem, ↓reduceIte, Nat.reduceAdd, Nat.reduceEqDiff, Nat.reduceLT, Nat.reduceLeDiff, Nat.reduceBEq, Int.reduceEq, Int.reduceLT, Int.reduceLE]))
end Go.Proofs.Ytlhfeiacigmliaa

/- The wash-house's soap: what the functions compute: the document's groups and payments. -/
namespace Go.Proofs.Ytlhfeiacigmliaa
open Go
set_option maxRecDepth 10000

def low (w : Nat) : Nat := band w (18446744073709551616 - w)
section
variable (S : Slate) (L : List Int) (hE : S.es.length < 1000000) (hL : L.length = S.es.length)
include hE hL
end
end Go.Proofs.Ytlhfeiacigmliaa

/- The wash-house's soap: what the functions compute: a purse's groups. -/
namespace Go.Proofs.Ytlhfeiacigmliaa
open Go
set_option maxRecDepth 10000
set_option linter.unusedSectionVars false

def findI (a : Nat → Int) (w left : Nat) : Nat → Nat → Option Nat
  | _, 0 => none
  | i, k + 1 => if bsub w (pw i) ≠ w ∧ mostN a (bsub w (pw i)) = left then some i else findI a w left (i + 1) k
def leftN (a : Nat → Int) (w : Nat) : Nat := mostUp (mostN a) w 0 0 6
def grp (a : Nat → Int) : Nat → Nat → Nat → List (List Int)
  | 0, _, _ => []
  | f + 1, w, g => if w = 0 then [] else match findI a w (leftN a w) 0 6 with
    | none => []
    | some i => if sumA a (bsub w (pw i)) = 0 then bitsOf (bor g (pw i)) :: grp a f (bsub w (pw i)) 0 else grp a f (bsub w (pw i)) (bor g (pw i))
theorem bor_64 {g i : Nat} (hg : g < 64) (hi : i < 6) : bor g (pw i) < 64 := by
  unfold bor pw
  exact Nat.or_lt_two_pow (n := 6) hg (Nat.pow_lt_pow_right (by omega) hi)
theorem mostUp_ge (g : Nat → Nat) (w : Nat) : ∀ (k i n : Nat), n ≤ mostUp g w n i k
  | 0, _, _ => Nat.le_refl _
  | k + 1, i, n => by
    rw [mostUp]
    refine Nat.le_trans ?_ (mostUp_ge g w k (i + 1) _)
    split <;> omega
theorem mostUp_bit (g : Nat → Nat) (w : Nat) : ∀ (k i n j : Nat), i ≤ j → j < i + k → bmod (bshr w j) 2 = 1 → g (bsub w (pw j)) ≤ mostUp g w n i k
  | 0, i, n, j, h1, h2, _ => by omega
  | k + 1, i, n, j, h1, h2, ht => by
    rw [mostUp]
    by_cases he : i = j
    · subst he
      rw [if_pos ht]
      exact Nat.le_trans (Nat.le_max_right ..) (mostUp_ge ..)
    · exact mostUp_bit g w k (i + 1) _ j (by omega) (by omega) ht
theorem mostUp_att (g : Nat → Nat) (w : Nat) : ∀ (k i n : Nat), mostUp g w n i k = n ∨ ∃ j, i ≤ j ∧ j < i + k ∧ bmod (bshr w j) 2 = 1 ∧ g (bsub w (pw j)) = mostUp g w n i k
  | 0, _, _ => Or.inl rfl
  | k + 1, i, n => by
    rw [mostUp]
    by_cases ht : bmod (bshr w i) 2 = 1
    · rw [if_pos ht]
      rcases mostUp_att g w k (i + 1) (max n (g (bsub w (pw i)))) with h | ⟨j, h1, h2, h3, h4⟩
      · rw [h]
        rcases Nat.le_total n (g (bsub w (pw i))) with hle | hle
        · right; exact ⟨i, by omega, by omega, ht, by rw [Nat.max_eq_right hle]⟩
        · left; exact Nat.max_eq_left hle
      · right; exact ⟨j, by omega, by omega, h3, h4⟩
    · rw [if_neg ht]
      rcases mostUp_att g w k (i + 1) n with h | ⟨j, h1, h2, h3, h4⟩
      · left; exact h
      · right; exact ⟨j, by omega, by omega, h3, h4⟩
theorem has_bit {w : Nat} (h0 : w ≠ 0) (h : w < 64) : ∃ j, j < 6 ∧ bmod (bshr w j) 2 = 1 := by
  by_cases h1 : ∃ j, j < 6 ∧ bmod (bshr w j) 2 = 1
  · exact h1
  · exfalso
    apply h0
    apply Nat.eq_of_testBit_eq
    intro j
    rw [Nat.zero_testBit]
    by_cases hj : j < 6
    · have : ¬ bmod (bshr w j) 2 = 1 := fun h2 => h1 ⟨j, hj, h2⟩
      rw [Nat.testBit_eq_decide_div_mod_eq, decide_eq_false_iff_not]
      unfold bmod bshr at this; rwa [Nat.shiftRight_eq_div_pow] at this
    · exact Nat.testBit_lt_two_pow (Nat.lt_of_lt_of_le h (Nat.pow_le_pow_right (n := 2) (i := 6) (by omega) (by omega)))
theorem findI_some {a : Nat → Int} {w left : Nat} : ∀ (k i j : Nat), i ≤ j → j < i + k → bsub w (pw j) ≠ w → mostN a (bsub w (pw j)) = left → ∃ x, findI a w left i k = some x ∧ i ≤ x ∧ x < i + k ∧ bsub w (pw x) ≠ w
  | 0, i, j, h1, h2, _, _ => by omega
  | k + 1, i, j, h1, h2, h3, h4 => by
    rw [findI]
    by_cases he : bsub w (pw i) ≠ w ∧ mostN a (bsub w (pw i)) = left
    · rw [if_pos he]; exact ⟨i, rfl, by omega, by omega, he.1⟩
    · rw [if_neg he]
      have : i ≠ j := fun h => he (by subst h; exact ⟨h3, h4⟩)
      obtain ⟨x, g1, g2, g3, g4⟩ := findI_some k (i + 1) j (by omega) (by omega) h3 h4
      exact ⟨x, g1, by omega, by omega, g4⟩
theorem findI_ok (a : Nat → Int) {w : Nat} (h0 : w ≠ 0) (h : w < 64) : ∃ x, findI a w (leftN a w) 0 6 = some x ∧ x < 6 ∧ bsub w (pw x) < w := by
  have : ∃ j, j < 6 ∧ bmod (bshr w j) 2 = 1 ∧ mostN a (bsub w (pw j)) = leftN a w := by
    rcases mostUp_att (mostN a) w 6 0 0 with h1 | ⟨j, _, h2, h3, h4⟩
    · obtain ⟨j, hj, hb⟩ := has_bit h0 h
      have := mostUp_bit (mostN a) w 6 0 0 j (by omega) (by omega) hb
      exact ⟨j, hj, hb, by unfold leftN; omega⟩
    · exact ⟨j, by omega, h3, h4⟩
  obtain ⟨j, hj, hb, hm⟩ := this
  obtain ⟨x, g1, _, g2, g3⟩ := findI_some (a := a) (left := leftN a w) 6 0 j (by omega) (by omega) (Nat.ne_of_lt (bsub_lt hb)) hm
  exact ⟨x, g1, by omega, by have := bsub_le w (pw x); omega⟩
section
variable (a : Nat → Int) (m : Nat)
theorem l81_0 (out : AVal) (w g left : Nat) (hw : w < 64) (hg : g < 64) (p : Nat) (q : Nat → Nat) : ∀ (k i : Nat) (M : Nat) (Q : List AObj), i + k = 6 → MapsOk Memo [(a, m)] M Q →
    ∃ M' Q', Eff Memo [(a, m)] M Q M' Q' ∧ lim tbl (.loop a81_l0 58 ⟨[0, 2, 3, 4, 6, 24], [0, 2, 3, 4], []⟩ [.vref (c7 a m), out, i64 (Int.ofNat w), i64 (Int.ofNat g), i64 (Int.ofNat left), i64 (Int.ofNat i)]) ⟨M, Q, p, q⟩
      = some (.exit 2, [.vref (c7 a m), out, i64 (Int.ofNat (match findI a w left i k with | none => w | some x => bsub w (pw x))), i64 (Int.ofNat (match findI a w left i k with | none => g | some x => bor g (pw x)))], ⟨M', Q', p, q⟩) := by
  intro k
  induction k with
  | zero =>
    intro i M Q hi hm
    have h6 : ¬ Int.ofNat i < 6 := by simp; omega
    refine ⟨M, Q, Eff.refl hm, ?_⟩
    simp only [findI]
    rw [lim_loop]
    (try simp only [go_sem, ↓reduceIte, Nat.reduceAdd, Nat.reduceEqDiff, Nat.reduceLT, Nat.reduceLeDiff, Nat.reduceBEq, Int.reduceEq, Int.reduceLT, Int.reduceLE]); (repeat ((first | rw [lt_n h6] | (rw [lt_yes]; rotate_left; (first | omega | (simp [lenOf, app]; omega) | (simp only [lenOf]; omega))) | (rw [lt_no]; rotate_left; (first | omega | (simp [lenOf, app]; omega) | (simp only [lenOf]; omega))) | (rw [idxA_at]; rotate_left; (first | omega | (simp [lenOf, app]; omega) | (simp only [lenOf]; omega))) | (rw [wr_up]; rotate_left; (first | omega | (simp [lenOf, app]; omega) | (simp only [lenOf]; omega))) | ((first | rw [drop_cI] | rw [drop_cE] | rw [drop_cS] | rw [drop_cP] | rw [drop_cR]); rotate_left; assumption)); try simp only [go_sem, ↓reduceIte, Nat.reduceAdd, Nat.reduceEqDiff, Nat.reduceLT, Nat.reduceLeDiff, Nat.reduceBEq, Int.reduceEq, Int.reduceLT, Int.reduceLE]))
  | succ k ih =>
    intro i M Q hi hm
    have h6 : Int.ofNat i < 6 := by simp; omega
    have hpw : pw i < 9223372036854775808 := pw_lt (by omega)
    have hsh : shlI 1 (Int.ofNat i) = some (i64 (Int.ofNat (pw i))) := shl1_at (by omega)
    have hsub : bitsA .andNot .i64 (Int.ofNat w) (Int.ofNat (pw i)) = some (i64 (Int.ofNat (bsub w (pw i)))) := bits_sub (by omega) hpw
    have hor : bitsA .or .i64 (Int.ofNat g) (Int.ofNat (pw i)) = some (i64 (Int.ofNat (bor g (pw i)))) := bits_or (by omega) hpw
    have hle := bsub_le w (pw i)
    rw [findI]
    by_cases hb : bsub w (pw i) = w
    · obtain ⟨M', Q', hE, h'⟩ := ih (i + 1) M Q (by omega) hm
      refine ⟨M', Q', hE, ?_⟩
      rw [if_neg (fun h => h.1 hb), lim_loop]
      generalize hR : some (_, _, _) = R at h' ⊢
      (try simp only [go_sem, ↓reduceIte, Nat.reduceAdd, Nat.reduceEqDiff, Nat.reduceLT, Nat.reduceLeDiff, Nat.reduceBEq, Int.reduceEq, Int.reduceLT, Int.reduceLE]); (repeat ((first | rw [lt_y h6] | rw [hsh] | rw [hsub] | rw [eqN_y hb] | (rw [lt_yes]; rotate_left; (first | omega | (simp [lenOf, app]; omega) | (simp only [lenOf]; omega))) | (rw [lt_no]; rotate_left; (first | omega | (simp [lenOf, app]; omega) | (simp only [lenOf]; omega))) | (rw [idxA_at]; rotate_left; (first | omega | (simp [lenOf, app]; omega) | (simp only [lenOf]; omega))) | (rw [wr_up]; rotate_left; (first | omega | (simp [lenOf, app]; omega) | (simp only [lenOf]; omega))) | ((first | rw [drop_cI] | rw [drop_cE] | rw [drop_cS] | rw [drop_cP] | rw [drop_cR]); rotate_left; assumption)); try simp only [go_sem, ↓reduceIte, Nat.reduceAdd, Nat.reduceEqDiff, Nat.reduceLT, Nat.reduceLeDiff, Nat.reduceBEq, Int.reduceEq, Int.reduceLT, Int.reduceLE]))
      exact h'
    · obtain ⟨M1, Q1, hE1, hc⟩ := k112 a m p q (bsub w (pw i)) (by omega) M Q hm
      by_cases hl : mostN a (bsub w (pw i)) = left
      · refine ⟨M1, Q1, hE1, ?_⟩
        rw [if_pos ⟨hb, hl⟩, lim_loop]
        simp only
        generalize bsub w (pw i) = z at hsub hb hc hl ⊢
        generalize mostN a z = y at hc hl
        (try simp only [go_sem, ↓reduceIte, Nat.reduceAdd, Nat.reduceEqDiff, Nat.reduceLT, Nat.reduceLeDiff, Nat.reduceBEq, Int.reduceEq, Int.reduceLT, Int.reduceLE]); (repeat ((first | rw [lt_y h6] | rw [hsh] | rw [hsub] | rw [eqN_n hb] | rw [hc] | rw [eqN_y hl] | rw [hor] | (rw [lt_yes]; rotate_left; (first | omega | (simp [lenOf, app]; omega) | (simp only [lenOf]; omega))) | (rw [lt_no]; rotate_left; (first | omega | (simp [lenOf, app]; omega) | (simp only [lenOf]; omega))) | (rw [idxA_at]; rotate_left; (first | omega | (simp [lenOf, app]; omega) | (simp only [lenOf]; omega))) | (rw [wr_up]; rotate_left; (first | omega | (simp [lenOf, app]; omega) | (simp only [lenOf]; omega))) | ((first | rw [drop_cI] | rw [drop_cE] | rw [drop_cS] | rw [drop_cP] | rw [drop_cR]); rotate_left; assumption)); try simp only [go_sem, ↓reduceIte, Nat.reduceAdd, Nat.reduceEqDiff, Nat.reduceLT, Nat.reduceLeDiff, Nat.reduceBEq, Int.reduceEq, Int.reduceLT, Int.reduceLE]))
      · obtain ⟨M', Q', hE, h'⟩ := ih (i + 1) M1 Q1 (by omega) hE1.maps
        refine ⟨M', Q', hE1.trans hE, ?_⟩
        rw [if_neg (fun h => hl h.2), lim_loop]
        generalize hR : some (_, _, _) = R at h' ⊢
        (try simp only [go_sem, ↓reduceIte, Nat.reduceAdd, Nat.reduceEqDiff, Nat.reduceLT, Nat.reduceLeDiff, Nat.reduceBEq, Int.reduceEq, Int.reduceLT, Int.reduceLE]); (repeat ((first | rw [lt_y h6] | rw [hsh] | rw [hsub] | rw [eqN_n hb] | rw [hc] | rw [eqN_n hl] | (rw [lt_yes]; rotate_left; (first | omega | (simp [lenOf, app]; omega) | (simp only [lenOf]; omega))) | (rw [lt_no]; rotate_left; (first | omega | (simp [lenOf, app]; omega) | (simp only [lenOf]; omega))) | (rw [idxA_at]; rotate_left; (first | omega | (simp [lenOf, app]; omega) | (simp only [lenOf]; omega))) | (rw [wr_up]; rotate_left; (first | omega | (simp [lenOf, app]; omega) | (simp only [lenOf]; omega))) | ((first | rw [drop_cI] | rw [drop_cE] | rw [drop_cS] | rw [drop_cP] | rw [drop_cR]); rotate_left; assumption)); try simp only [go_sem, ↓reduceIte, Nat.reduceAdd, Nat.reduceEqDiff, Nat.reduceLT, Nat.reduceLeDiff, Nat.reduceBEq, Int.reduceEq, Int.reduceLT, Int.reduceLE]))
        exact h'
theorem l81_1 (p : Nat) (q : Nat → Nat) : ∀ (f w g : Nat) (acc : List (List Int)) (M : Nat) (Q : List AObj), w < f → w < 64 → g < 64 → acc.length + w < 1000 → MapsOk Memo [(a, m)] M Q →
    ∃ M' Q', Eff Memo [(a, m)] M Q M' Q' ∧ lim tbl (.loop a81_l1 58 ⟨[0, 2, 3, 4], [2], []⟩ [.vref (c7 a m), ownSl cL p acc, i64 (Int.ofNat w), i64 (Int.ofNat g)]) ⟨M, Q, roomP p (lenOf acc), roomC p q (lenOf acc)⟩
      = some (.exit 0, [ownSl cL p (app acc (grp a f w g))], ⟨M', Q', roomP p (lenOf (app acc (grp a f w g))), roomC p q (lenOf (app acc (grp a f w g)))⟩) := by
  intro f
  induction f with
  | zero => intro w g acc M Q h; omega
  | succ f ih =>
    intro w g acc M Q hf hw hg ha hm
    rw [grp]
    by_cases h0 : w = 0
    · refine ⟨M, Q, Eff.refl hm, ?_⟩
      have hn : ¬ (0 : Int) < Int.ofNat w := by simp; omega
      rw [if_pos h0, app_nil, lim_loop]
      (try simp only [go_sem, ↓reduceIte, Nat.reduceAdd, Nat.reduceEqDiff, Nat.reduceLT, Nat.reduceLeDiff, Nat.reduceBEq, Int.reduceEq, Int.reduceLT, Int.reduceLE]); (repeat ((first | rw [lt_n hn] | (rw [lt_yes]; rotate_left; (first | omega | (simp [lenOf, app]; omega) | (simp only [lenOf]; omega))) | (rw [lt_no]; rotate_left; (first | omega | (simp [lenOf, app]; omega) | (simp only [lenOf]; omega))) | (rw [idxA_at]; rotate_left; (first | omega | (simp [lenOf, app]; omega) | (simp only [lenOf]; omega))) | (rw [wr_up]; rotate_left; (first | omega | (simp [lenOf, app]; omega) | (simp only [lenOf]; omega))) | ((first | rw [drop_cI] | rw [drop_cE] | rw [drop_cS] | rw [drop_cP] | rw [drop_cR]); rotate_left; assumption)); try simp only [go_sem, ↓reduceIte, Nat.reduceAdd, Nat.reduceEqDiff, Nat.reduceLT, Nat.reduceLeDiff, Nat.reduceBEq, Int.reduceEq, Int.reduceLT, Int.reduceLE]))
    · have hpos : (0 : Int) < Int.ofNat w := by simp; omega
      obtain ⟨x, hx, hx6, hlt⟩ := findI_ok a h0 hw
      rw [if_neg h0, hx]
      simp only
      have hg' := bor_64 hg hx6
      have h111 := fun s => k111 a m w s
      have h111' := fun s => k111 a m (bsub w (pw x)) s
      have hmn : mostN a w = leftN a w + (if sumA a w = 0 then 1 else 0) := by rw [mostN_eq, if_neg h0]; rfl
      have hle := mostN_le a w
      obtain ⟨M1, Q1, hE1, h112⟩ := k112 a m (roomP p (lenOf acc)) (roomC p q (lenOf acc)) w hw (na M 1) (.cells [i64 (Int.ofNat w), i64 (sumA a w)] :: Q) (hm.push _)
      have hbm : M ≠ m := by
        obtain ⟨es, h1, _⟩ := hm (a, m) (by simp)
        have := gO_lt h1; simp only at this; omega
      have g1 := hE1.keep M _ (by simpa using hbm) (gO_new M Q (.cells [i64 (Int.ofNat w), i64 (sumA a w)]))
      have e1 : ∀ p' q', St.get ⟨M1, Q1, p', q'⟩ M = some (.cells [i64 (Int.ofNat w), i64 (sumA a w)]) := fun _ _ => g1
      obtain ⟨M2, Q2, hE2, hl⟩ := l81_0 a m (ownSl cL p acc) w g (leftN a w) hw hg (roomP p (lenOf acc)) (roomC p q (lenOf acc)) 6 0 M1 Q1 (by omega) hE1.maps
      rw [hx, ofNat_0] at hl
      simp only at hl
      have hE12 := (hE1.trans hE2).push
      have hp60 : pw 60 = 1152921504606846976 := by rfl
      have h113 := fun s => k113 (bor g (pw x)) (by omega) s
      by_cases hs' : sumA a (bsub w (pw x)) = 0
      · have happ := append_own (f := cL) (sz := 1) (fun _ => rfl) 24 p q M2 Q2 acc (bitsOf (bor g (pw x))) [sl cI (bitsOf (bor g (pw x)))] rfl .full (by omega) (by omega)
        obtain ⟨M', Q', hE3, h'⟩ := ih (bsub w (pw x)) 0 (app acc [bitsOf (bor g (pw x))]) M2 Q2 (by omega) (by omega) (by omega) (by simp [app]; omega) hE2.maps
        rw [ofNat_0] at h'
        refine ⟨M', Q', hE12.trans hE3, ?_⟩
        rw [if_pos hs', app_assoc, lim_loop]
        generalize hR : some (_, _, _) = R at h' ⊢
        by_cases hs : sumA a w = 0
        · rw [if_pos hs] at hmn
          have hw1 : wr .i64 (Int.sub (Int.ofNat (mostN a w)) 1) = Int.ofNat (leftN a w) := by
            rw [hmn, fold_sub, wr_in] <;> simp <;> omega
          (try simp only [go_sem, ↓reduceIte, Nat.reduceAdd, Nat.reduceEqDiff, Nat.reduceLT, Nat.reduceLeDiff, Nat.reduceBEq, Int.reduceEq, Int.reduceLT, Int.reduceLE]); (repeat ((first | rw [lt_y hpos] | simp only [h111] | rw [h112] | rw [e1] | rw [eq_y hs] | rw [hw1] | rw [hl] | simp only [h111'] | rw [eq_y hs'] | simp only [h113] | rw [happ] | (rw [lt_yes]; rotate_left; (first | omega | (simp [lenOf, app]; omega) | (simp only [lenOf]; omega))) | (rw [lt_no]; rotate_left; (first | omega | (simp [lenOf, app]; omega) | (simp only [lenOf]; omega))) | (rw [idxA_at]; rotate_left; (first | omega | (simp [lenOf, app]; omega) | (simp only [lenOf]; omega))) | (rw [wr_up]; rotate_left; (first | omega | (simp [lenOf, app]; omega) | (simp only [lenOf]; omega))) | ((first | rw [drop_cI] | rw [drop_cE] | rw [drop_cS] | rw [drop_cP] | rw [drop_cR]); rotate_left; assumption)); try simp only [go_sem, ↓reduceIte, Nat.reduceAdd, Nat.reduceEqDiff, Nat.reduceLT, Nat.reduceLeDiff, Nat.reduceBEq, Int.reduceEq, Int.reduceLT, Int.reduceLE]))
          exact h'
        · rw [if_neg hs, Nat.add_zero] at hmn
          rw [hmn] at h112
          (try simp only [go_sem, ↓reduceIte, Nat.reduceAdd, Nat.reduceEqDiff, Nat.reduceLT, Nat.reduceLeDiff, Nat.reduceBEq, Int.reduceEq, Int.reduceLT, Int.reduceLE]); (repeat ((first | rw [lt_y hpos] | simp only [h111] | rw [h112] | rw [e1] | rw [eq_n hs] | rw [hl] | simp only [h111'] | rw [eq_y hs'] | simp only [h113] | rw [happ] | (rw [lt_yes]; rotate_left; (first | omega | (simp [lenOf, app]; omega) | (simp only [lenOf]; omega))) | (rw [lt_no]; rotate_left; (first | omega | (simp [lenOf, app]; omega) | (simp only [lenOf]; omega))) | (rw [idxA_at]; rotate_left; (first | omega | (simp [lenOf, app]; omega) | (simp only [lenOf]; omega))) | (rw [wr_up]; rotate_left; (first | omega | (simp [lenOf, app]; omega) | (simp only [lenOf]; omega))) | ((first | rw [drop_cI] | rw [drop_cE] | rw [drop_cS] | rw [drop_cP] | rw [drop_cR]); rotate_left; assumption)); try simp only [go_sem, ↓reduceIte, Nat.reduceAdd, Nat.reduceEqDiff, Nat.reduceLT, Nat.reduceLeDiff, Nat.reduceBEq, Int.reduceEq, Int.reduceLT, Int.reduceLE]))
          exact h'
      · obtain ⟨M', Q', hE3, h'⟩ := ih (bsub w (pw x)) (bor g (pw x)) acc M2 Q2 (by omega) (by omega) hg' (by omega) hE2.maps
        refine ⟨M', Q', hE12.trans hE3, ?_⟩
        rw [if_neg hs', lim_loop]
        generalize hR : some (_, _, _) = R at h' ⊢
        by_cases hs : sumA a w = 0
        · rw [if_pos hs] at hmn
          have hw1 : wr .i64 (Int.sub (Int.ofNat (mostN a w)) 1) = Int.ofNat (leftN a w) := by
            rw [hmn, fold_sub, wr_in] <;> simp <;> omega
          (try simp only [go_sem, ↓reduceIte, Nat.reduceAdd, Nat.reduceEqDiff, Nat.reduceLT, Nat.reduceLeDiff, Nat.reduceBEq, Int.reduceEq, Int.reduceLT, Int.reduceLE]); (repeat ((first | rw [lt_y hpos] | simp only [h111] | rw [h112] | rw [e1] | rw [eq_y hs] | rw [hw1] | rw [hl] | simp only [h111'] | rw [eq_n hs'] | (rw [lt_yes]; rotate_left; (first | omega | (simp [lenOf, app]; omega) | (simp only [lenOf]; omega))) | (rw [lt_no]; rotate_left; (first | omega | (simp [lenOf, app]; omega) | (simp only [lenOf]; omega))) | (rw [idxA_at]; rotate_left; (first | omega | (simp [lenOf, app]; omega) | (simp only [lenOf]; omega))) | (rw [wr_up]; rotate_left; (first | omega | (simp [lenOf, app]; omega) | (simp only [lenOf]; omega))) | ((first | rw [drop_cI] | rw [drop_cE] | rw [drop_cS] | rw [drop_cP] | rw [drop_cR]); rotate_left; assumption)); try simp only [go_sem, ↓reduceIte, Nat.reduceAdd, Nat.reduceEqDiff, Nat.reduceLT, Nat.reduceLeDiff, Nat.reduceBEq, Int.reduceEq, Int.reduceLT, Int.reduceLE]))
          exact h'
        · rw [if_neg hs, Nat.add_zero] at hmn
          rw [hmn] at h112
          (try simp only [go_sem, ↓reduceIte, Nat.reduceAdd, Nat.reduceEqDiff, Nat.reduceLT, Nat.reduceLeDiff, Nat.reduceBEq, Int.reduceEq, Int.reduceLT, Int.reduceLE]); (repeat ((first | rw [lt_y hpos] | simp only [h111] | rw [h112] | rw [e1] | rw [eq_n hs] | rw [hl] | simp only [h111'] | rw [eq_n hs'] | (rw [lt_yes]; rotate_left; (first | omega | (simp [lenOf, app]; omega) | (simp only [lenOf]; omega))) | (rw [lt_no]; rotate_left; (first | omega | (simp [lenOf, app]; omega) | (simp only [lenOf]; omega))) | (rw [idxA_at]; rotate_left; (first | omega | (simp [lenOf, app]; omega) | (simp only [lenOf]; omega))) | (rw [wr_up]; rotate_left; (first | omega | (simp [lenOf, app]; omega) | (simp only [lenOf]; omega))) | ((first | rw [drop_cI] | rw [drop_cE] | rw [drop_cS] | rw [drop_cP] | rw [drop_cR]); rotate_left; assumption)); try simp only [go_sem, ↓reduceIte, Nat.reduceAdd, Nat.reduceEqDiff, Nat.reduceLT, Nat.reduceLeDiff, Nat.reduceBEq, Int.reduceEq, Int.reduceLT, Int.reduceLE]))
          exact h'
def groupsA : List (List Int) := grp a 64 (openN a) 0
theorem k81 (p : Nat) (q : Nat → Nat) (M : Nat) (Q : List AObj) (hm : MapsOk Memo [(a, m)] M Q) : ∃ M' Q', Eff Memo [(a, m)] M Q M' Q' ∧
    lim tbl (.call 81 [.vref (c7 a m)]) ⟨M, Q, p, q⟩ = some (.ret, [ownSl cL p (groupsA a)], ⟨M', Q', roomP p (lenOf (groupsA a)), roomC p q (lenOf (groupsA a))⟩) := by
  have h110 := fun s => k110 a m s
  have ho := openN_lt a
  obtain ⟨M', Q', hE, h0⟩ := l81_1 a m p q 64 (openN a) 0 [] M Q ho ho (by omega) (by simp; omega) hm
  rw [nil_app, ownSl_nil, show lenOf ([] : List (List Int)) = 0 from rfl, roomP_0, roomC_0, ofNat_0] at h0
  change _ = some (_, [ownSl cL p (groupsA a)], (⟨_, _, roomP p (lenOf (groupsA a)), roomC p q (lenOf (groupsA a))⟩ : St)) at h0
  refine ⟨M', Q', hE, ?_⟩
  rw [lim_call tbl_81]
  generalize groupsA a = G at h0 ⊢
  (try simp only [go_sem, ↓reduceIte, Nat.reduceAdd, Nat.reduceEqDiff, Nat.reduceLT, Nat.reduceLeDiff, Nat.reduceBEq, Int.reduceEq, Int.reduceLT, Int.reduceLE]); (repeat ((first | simp only [h110] | rw [h0] | (rw [lt_yes]; rotate_left; (first | omega | (simp [lenOf, app]; omega) | (simp only [lenOf]; omega))) | (rw [lt_no]; rotate_left; (first | omega | (simp [lenOf, app]; omega) | (simp only [lenOf]; omega))) | (rw [idxA_at]; rotate_left; (first | omega | (simp [lenOf, app]; omega) | (simp only [lenOf]; omega))) | (rw [wr_up]; rotate_left; (first | omega | (simp [lenOf, app]; omega) | (simp only [lenOf]; omega))) | ((first | rw [drop_cI] | rw [drop_cE] | rw [drop_cS] | rw [drop_cP] | rw [drop_cR]); rotate_left; assumption)); try simp only [go_sem, ↓reduceIte, Nat.reduceAdd, Nat.reduceEqDiff, Nat.reduceLT, Nat.reduceLeDiff, Nat.reduceBEq, Int.reduceEq, Int.reduceLT, Int.reduceLE]))
end
/-- What Groups returns. -/
def groupsP (S : Slate) (L : List Int) : List (List Int) := if playErr S L = 0 then groupsA (playOw S L) else []
theorem k30 (S : Slate) (L : List Int) (s : St) : lim tbl (.call 30 [vSl S, sl cI L]) s = some (.ret, [.tup [sl cL (groupsP S L), i64 (playErr S L)]], s) := by
  have h79 := fun s => k79 S L good_of_check s
  rw [lim_call tbl_30]
  by_cases he : playErr S L = 0
  · have hb : groupsP S L = groupsA (playOw S L) := by simp [groupsP, he]
    rw [hb, he]
    rw [he] at h79
    generalize playOw S L = a at h79 ⊢
    obtain ⟨N, O, p, q⟩ := s
    have h80 := k80 a (na N 1) (.cells (c6 a) :: O) p q
    obtain ⟨M', Q', hE, h81⟩ := k81 a (na N 1) p q (na (na N 1) 1) (.map true [] :: .cells (c6 a) :: O) (fun x hx => by
      simp only [List.mem_singleton] at hx; subst hx
      exact ⟨[], gO_new .., fun y hy => by simp at hy⟩)
    have hold := (hE.old N O (by simp [na]) (((OldO.refl N O).push _).push _)).oldr p q (roomP p (lenOf (groupsA a))) (lenOf (groupsA a))
    obtain ⟨w, es, ss⟩ := S
    generalize groupsA a = G at h81 hold ⊢
    (try simp only [go_sem, ↓reduceIte, Nat.reduceAdd, Nat.reduceEqDiff, Nat.reduceLT, Nat.reduceLeDiff, Nat.reduceBEq, Int.reduceEq, Int.reduceLT, Int.reduceLE]); (repeat ((first | simp only [h79] | rw [h80] | rw [h81] | rw [hold] | (rw [lt_yes]; rotate_left; (first | omega | (simp [lenOf, app]; omega) | (simp only [lenOf]; omega))) | (rw [lt_no]; rotate_left; (first | omega | (simp [lenOf, app]; omega) | (simp only [lenOf]; omega))) | (rw [idxA_at]; rotate_left; (first | omega | (simp [lenOf, app]; omega) | (simp only [lenOf]; omega))) | (rw [wr_up]; rotate_left; (first | omega | (simp [lenOf, app]; omega) | (simp only [lenOf]; omega))) | ((first | rw [drop_cI] | rw [drop_cE] | rw [drop_cS] | rw [drop_cP] | rw [drop_cR]); rotate_left; assumption)); try simp only [go_sem, ↓reduceIte, Nat.reduceAdd, Nat.reduceEqDiff, Nat.reduceLT, Nat.reduceLeDiff, Nat.reduceBEq, Int.reduceEq, Int.reduceLT, Int.reduceLE]))
  · have hb : groupsP S L = [] := by simp [groupsP, he]
    rw [hb]
    generalize playErr S L = e at h79 he ⊢
    generalize playOw S L = A at h79 ⊢
    obtain ⟨w, es, ss⟩ := S
    obtain ⟨N, O, p, q⟩ := s
    (try simp only [go_sem, ↓reduceIte, Nat.reduceAdd, Nat.reduceEqDiff, Nat.reduceLT, Nat.reduceLeDiff, Nat.reduceBEq, Int.reduceEq, Int.reduceLT, Int.reduceLE]); (repeat ((first | simp only [h79] | rw [eq_n he] | (rw [lt_yes]; rotate_left; (first | omega | (simp [lenOf, app]; omega) | (simp only [lenOf]; omega))) | (rw [lt_no]; rotate_left; (first | omega | (simp [lenOf, app]; omega) | (simp only [lenOf]; omega))) | (rw [idxA_at]; rotate_left; (first | omega | (simp [lenOf, app]; omega) | (simp only [lenOf]; omega))) | (rw [wr_up]; rotate_left; (first | omega | (simp [lenOf, app]; omega) | (simp only [lenOf]; omega))) | ((first | rw [drop_cI] | rw [drop_cE] | rw [drop_cS] | rw [drop_cP] | rw [drop_cR]); rotate_left; assumption)); try simp only [go_sem, ↓reduceIte, Nat.reduceAdd, Nat.reduceEqDiff, Nat.reduceLT, Nat.reduceLeDiff, Nat.reduceBEq, Int.reduceEq, Int.reduceLT, Int.reduceLE]))
end Go.Proofs.Ytlhfeiacigmliaa

/- The wash-house's soap: what the functions compute: payments that settle. -/
namespace Go.Proofs.Ytlhfeiacigmliaa
open Go
set_option maxRecDepth 10000

theorem k115 (a : Nat → Int) (b j : Nat) (hj : j < 6) (s : St) (hg : s.get b = some (.cells (c6 a))) : lim tbl (.call 115 [i64 (Int.ofNat j), .ptr b 0]) s = some (.ret, [.bool (decide (a j < 0))], s) := by
  have hn := nthO_c6 a hj
  have hi : idxA (i64 (Int.ofNat j)) 6 = some j := idxA_at hj
  rw [lim_call tbl_115]; obtain ⟨N, O, p, q⟩ := s
  (try simp only [go_sem, ↓reduceIte, Nat.reduceAdd, Nat.reduceEqDiff, Nat.reduceLT, Nat.reduceLeDiff, Nat.reduceBEq, Int.reduceEq, Int.reduceLT, Int.reduceLE]); (repeat ((first | rw [hi] | rw [hg] | rw [hn] | (rw [lt_yes]; rotate_left; (first | omega | (simp [lenOf, app]; omega) | (simp only [lenOf]; omega))) | (rw [lt_no]; rotate_left; (first | omega | (simp [lenOf, app]; omega) | (simp only [lenOf]; omega))) | (rw [idxA_at]; rotate_left; (first | omega | (simp [lenOf, app]; omega) | (simp only [lenOf]; omega))) | (rw [wr_up]; rotate_left; (first | omega | (simp [lenOf, app]; omega) | (simp only [lenOf]; omega))) | ((first | rw [drop_cI] | rw [drop_cE] | rw [drop_cS] | rw [drop_cP] | rw [drop_cR]); rotate_left; assumption)); try simp only [go_sem, ↓reduceIte, Nat.reduceAdd, Nat.reduceEqDiff, Nat.reduceLT, Nat.reduceLeDiff, Nat.reduceBEq, Int.reduceEq, Int.reduceLT, Int.reduceLE]))
theorem k116 (a : Nat → Int) (b j : Nat) (hj : j < 6) (s : St) (hg : s.get b = some (.cells (c6 a))) : lim tbl (.call 116 [i64 (Int.ofNat j), .ptr b 0]) s = some (.ret, [.bool (decide (0 < a j))], s) := by
  have hn := nthO_c6 a hj
  have hi : idxA (i64 (Int.ofNat j)) 6 = some j := idxA_at hj
  rw [lim_call tbl_116]; obtain ⟨N, O, p, q⟩ := s
  (try simp only [go_sem, ↓reduceIte, Nat.reduceAdd, Nat.reduceEqDiff, Nat.reduceLT, Nat.reduceLeDiff, Nat.reduceBEq, Int.reduceEq, Int.reduceLT, Int.reduceLE]); (repeat ((first | rw [hi] | rw [hg] | rw [hn] | (rw [lt_yes]; rotate_left; (first | omega | (simp [lenOf, app]; omega) | (simp only [lenOf]; omega))) | (rw [lt_no]; rotate_left; (first | omega | (simp [lenOf, app]; omega) | (simp only [lenOf]; omega))) | (rw [idxA_at]; rotate_left; (first | omega | (simp [lenOf, app]; omega) | (simp only [lenOf]; omega))) | (rw [wr_up]; rotate_left; (first | omega | (simp [lenOf, app]; omega) | (simp only [lenOf]; omega))) | ((first | rw [drop_cI] | rw [drop_cE] | rw [drop_cS] | rw [drop_cP] | rw [drop_cR]); rotate_left; assumption)); try simp only [go_sem, ↓reduceIte, Nat.reduceAdd, Nat.reduceEqDiff, Nat.reduceLT, Nat.reduceLeDiff, Nat.reduceBEq, Int.reduceEq, Int.reduceLT, Int.reduceLE]))
theorem l114 {P : Nat → Bool} {G : AVal} (s : St) (gs : List Nat) (hl : gs.length < 1000000) (hG : ∀ e ∈ gs, callA (lim tbl) G [i64 (Int.ofNat e)] s = some (.bool (P e), s)) : ∀ (k i : Nat), i + k = gs.length → ∀ R,
    R = (match (gs.drop i).findIdx? P with | some j => some (.ret, [i64 (Int.ofNat (i + j))], s) | none => some (.exit 0, [], s)) →
    lim tbl (.loop a114_l0 19 ⟨[0, 1, 7, 8], [], [4]⟩ [sl cI (ints gs), G, i64 (Int.ofNat (lenOf (ints gs))), i64 (Int.ofNat i)]) s = R := by
  intro k
  have hlm : lenOf (ints gs) = gs.length := by simp [lenOf, ints]
  induction k with
  | zero =>
    intro i hi R hR
    rw [List.drop_eq_nil_of_le (by omega)] at hR
    simp only [List.findIdx?_nil] at hR
    rw [lim_loop]; obtain ⟨N, O, p, q⟩ := s
    (try simp only [go_sem, ↓reduceIte, Nat.reduceAdd, Nat.reduceEqDiff, Nat.reduceLT, Nat.reduceLeDiff, Nat.reduceBEq, Int.reduceEq, Int.reduceLT, Int.reduceLE]); (repeat ((first | (rw [lt_yes]; rotate_left; (first | omega | (simp [lenOf, app]; omega) | (simp only [lenOf]; omega))) | (rw [lt_no]; rotate_left; (first | omega | (simp [lenOf, app]; omega) | (simp only [lenOf]; omega))) | (rw [idxA_at]; rotate_left; (first | omega | (simp [lenOf, app]; omega) | (simp only [lenOf]; omega))) | (rw [wr_up]; rotate_left; (first | omega | (simp [lenOf, app]; omega) | (simp only [lenOf]; omega))) | ((first | rw [drop_cI] | rw [drop_cE] | rw [drop_cS] | rw [drop_cP] | rw [drop_cR]); rotate_left; assumption)); try simp only [go_sem, ↓reduceIte, Nat.reduceAdd, Nat.reduceEqDiff, Nat.reduceLT, Nat.reduceLeDiff, Nat.reduceBEq, Int.reduceEq, Int.reduceLT, Int.reduceLE]))
    exact hR.symm
  | succ k ih =>
    intro i hi R hR
    have hlt : i < gs.length := by omega
    obtain ⟨e, he, hd⟩ := getElem_drop hlt
    have he' := map_get he
    have hGe := hG e (List.mem_of_getElem? he)
    have hix : idxA (i64 (Int.ofNat i)) (lenOf (ints gs)) = some i := idxA_at (by simp [lenOf, ints]; omega)
    rw [hd, List.findIdx?_cons] at hR
    rw [lim_loop]
    cases hP : P e with
    | true =>
      rw [hP] at hGe hR
      simp only [if_true, Nat.add_zero] at hR
      obtain ⟨N, O, p, q⟩ := s
      (try simp only [go_sem, ↓reduceIte, Nat.reduceAdd, Nat.reduceEqDiff, Nat.reduceLT, Nat.reduceLeDiff, Nat.reduceBEq, Int.reduceEq, Int.reduceLT, Int.reduceLE]); (repeat ((first | rw [hix] | rw [hGe] | (rw [lt_yes]; rotate_left; (first | omega | (simp [lenOf, app]; omega) | (simp only [lenOf]; omega))) | (rw [lt_no]; rotate_left; (first | omega | (simp [lenOf, app]; omega) | (simp only [lenOf]; omega))) | (rw [idxA_at]; rotate_left; (first | omega | (simp [lenOf, app]; omega) | (simp only [lenOf]; omega))) | (rw [wr_up]; rotate_left; (first | omega | (simp [lenOf, app]; omega) | (simp only [lenOf]; omega))) | ((first | rw [drop_cI] | rw [drop_cE] | rw [drop_cS] | rw [drop_cP] | rw [drop_cR]); rotate_left; assumption)); try simp only [go_sem, ↓reduceIte, Nat.reduceAdd, Nat.reduceEqDiff, Nat.reduceLT, Nat.reduceLeDiff, Nat.reduceBEq, Int.reduceEq, Int.reduceLT, Int.reduceLE]))
      exact hR.symm
    | false =>
      rw [hP] at hGe hR
      have h' := ih (i + 1) (by omega) R (by
        rw [hR]; simp only [Bool.false_eq_true, if_false]
        cases (gs.drop (i + 1)).findIdx? P with
        | none => rfl
        | some j => simp only [Option.map_some]; rw [show i + (j + 1) = i + 1 + j by omega])
      obtain ⟨N, O, p, q⟩ := s
      (try simp only [go_sem, ↓reduceIte, Nat.reduceAdd, Nat.reduceEqDiff, Nat.reduceLT, Nat.reduceLeDiff, Nat.reduceBEq, Int.reduceEq, Int.reduceLT, Int.reduceLE]); (repeat ((first | rw [hix] | rw [hGe] | (rw [lt_yes]; rotate_left; (first | omega | (simp [lenOf, app]; omega) | (simp only [lenOf]; omega))) | (rw [lt_no]; rotate_left; (first | omega | (simp [lenOf, app]; omega) | (simp only [lenOf]; omega))) | (rw [idxA_at]; rotate_left; (first | omega | (simp [lenOf, app]; omega) | (simp only [lenOf]; omega))) | (rw [wr_up]; rotate_left; (first | omega | (simp [lenOf, app]; omega) | (simp only [lenOf]; omega))) | ((first | rw [drop_cI] | rw [drop_cE] | rw [drop_cS] | rw [drop_cP] | rw [drop_cR]); rotate_left; assumption)); try simp only [go_sem, ↓reduceIte, Nat.reduceAdd, Nat.reduceEqDiff, Nat.reduceLT, Nat.reduceLeDiff, Nat.reduceBEq, Int.reduceEq, Int.reduceLT, Int.reduceLE]))
      exact h'
theorem k114 {P : Nat → Bool} {f : Nat} {b : Nat} (s : St) (gs : List Nat) (hl : gs.length < 1000000) (hG : ∀ e ∈ gs, callA (lim tbl) (.fn (.func f) [] [.ptr b 0]) [i64 (Int.ofNat e)] s = some (.bool (P e), s)) :
    lim tbl (.call 114 [sl cI (ints gs), .fn (.func f) [] [.ptr b 0]]) s = some (.ret, [i64 (match gs.findIdx? P with | some j => Int.ofNat j | none => -1)], s) := by
  have h0 := l114 s gs hl hG gs.length 0 (by omega) _ rfl
  rw [List.drop_zero, ofNat_0] at h0
  rw [lim_call tbl_114]; obtain ⟨N, O, p, q⟩ := s
  cases hf : gs.findIdx? P with
  | some j =>
    rw [hf] at h0
    simp only [Nat.zero_add] at h0 ⊢
    (try simp only [go_sem, ↓reduceIte, Nat.reduceAdd, Nat.reduceEqDiff, Nat.reduceLT, Nat.reduceLeDiff, Nat.reduceBEq, Int.reduceEq, Int.reduceLT, Int.reduceLE]); (repeat ((first | rw [h0] | (rw [lt_yes]; rotate_left; (first | omega | (simp [lenOf, app]; omega) | (simp only [lenOf]; omega))) | (rw [lt_no]; rotate_left; (first | omega | (simp [lenOf, app]; omega) | (simp only [lenOf]; omega))) | (rw [idxA_at]; rotate_left; (first | omega | (simp [lenOf, app]; omega) | (simp only [lenOf]; omega))) | (rw [wr_up]; rotate_left; (first | omega | (simp [lenOf, app]; omega) | (simp only [lenOf]; omega))) | ((first | rw [drop_cI] | rw [drop_cE] | rw [drop_cS] | rw [drop_cP] | rw [drop_cR]); rotate_left; assumption)); try simp only [go_sem, ↓reduceIte, Nat.reduceAdd, Nat.reduceEqDiff, Nat.reduceLT, Nat.reduceLeDiff, Nat.reduceBEq, Int.reduceEq, Int.reduceLT, Int.reduceLE]))
  | none =>
    rw [hf] at h0
    simp only at h0 ⊢
    (try simp only [go_sem, ↓reduceIte, Nat.reduceAdd, Nat.reduceEqDiff, Nat.reduceLT, Nat.reduceLeDiff, Nat.reduceBEq, Int.reduceEq, Int.reduceLT, Int.reduceLE]); (repeat ((first | rw [h0] | (rw [lt_yes]; rotate_left; (first | omega | (simp [lenOf, app]; omega) | (simp only [lenOf]; omega))) | (rw [lt_no]; rotate_left; (first | omega | (simp [lenOf, app]; omega) | (simp only [lenOf]; omega))) | (rw [idxA_at]; rotate_left; (first | omega | (simp [lenOf, app]; omega) | (simp only [lenOf]; omega))) | (rw [wr_up]; rotate_left; (first | omega | (simp [lenOf, app]; omega) | (simp only [lenOf]; omega))) | ((first | rw [drop_cI] | rw [drop_cE] | rw [drop_cS] | rw [drop_cP] | rw [drop_cR]); rotate_left; assumption)); try simp only [go_sem, ↓reduceIte, Nat.reduceAdd, Nat.reduceEqDiff, Nat.reduceLT, Nat.reduceLeDiff, Nat.reduceBEq, Int.reduceEq, Int.reduceLT, Int.reduceLE]))
/-- The payments that settle a group. -/
def settleF : Nat → (Nat → Int) → List Nat → List Pay
  | 0, _, _ => []
  | f + 1, a, gs => match gs.findIdx? (fun j => decide (a j < 0)), gs.findIdx? (fun j => decide (0 < a j)) with
    | some i, some k =>
      let x := gs.getD i 0
      let y := gs.getD k 0
      let n := mn (-a x) (a y)
      ⟨Int.ofNat x, Int.ofNat y, n⟩ :: settleF f (put (put a x (a x + n)) y (put a x (a x + n) y - n)) gs
    | _, _ => []
/-- How many of a group are owed something. -/
def openC (a : Nat → Int) : List Nat → Nat
  | [] => 0
  | j :: gs => (if a j = 0 then 0 else 1) + openC a gs
theorem find_get {gs : List Nat} {P : Nat → Bool} {i : Nat} (h : gs.findIdx? P = some i) : ∃ hi : i < gs.length, P gs[i] = true := by
  rw [List.findIdx?_eq_some_iff_getElem] at h
  exact ⟨h.1, h.2.1⟩
theorem openC_le {a a' : Nat → Int} : ∀ {gs : List Nat} (_ : ∀ j ∈ gs, a j = 0 → a' j = 0), openC a' gs ≤ openC a gs
  | [], _ => Nat.le_refl _
  | y :: gs, h => by
    have ih := openC_le (gs := gs) fun j hj => h j (by simp [hj])
    have hy := h y (by simp)
    simp only [openC]
    split <;> split <;> first | omega | (rename_i h1 h2; exact absurd (hy h2) h1)
theorem openC_lt {a a' : Nat → Int} {gs : List Nat} (h : ∀ j ∈ gs, a j = 0 → a' j = 0) {j : Nat} (hj : j ∈ gs) (h1 : a j ≠ 0) (h2 : a' j = 0) : openC a' gs < openC a gs := by
  induction gs with
  | nil => simp at hj
  | cons x gs ih =>
    simp only [openC]
    by_cases hx : x = j
    · subst hx
      have := openC_le (gs := gs) fun j hj => h j (by simp [hj])
      rw [if_pos h2, if_neg h1]; omega
    · have hj' : j ∈ gs := by
        simp only [List.mem_cons] at hj
        rcases hj with hj | hj
        · exact absurd hj.symm hx
        · exact hj
      have ih' := ih (fun j hj => h j (by simp [hj])) hj'
      have hy := h x (by simp)
      split <;> split <;> first | omega | (rename_i g1 g2; exact absurd (hy g2) g1)
theorem openC_len (a : Nat → Int) : ∀ gs : List Nat, openC a gs ≤ gs.length
  | [] => Nat.le_refl _
  | j :: gs => by have := openC_len a gs; simp only [openC, List.length_cons]; split <;> omega
def Small (a : Nat → Int) : Prop := ∀ j, -1000000000 ≤ a j ∧ a j ≤ 1000000000
theorem l91 (gs : List Nat) (hgs : ∀ j ∈ gs, j < 6) (hl : gs.length < 1000) (N : Nat) (O : List AObj) (p : Nat) (q : Nat → Nat) : ∀ (f : Nat) (a : Nat → Int) (acc : List Pay), openC a gs < f → acc.length + f < 10000 → Small a →
    ∃ a', lim tbl (.loop a91_l0 64 ⟨[1, 4, 5], [], [4]⟩ [sl cI (ints gs), ownSl cP p acc, .ptr N 0]) ⟨na N 1, .cells (c6 a) :: O, roomP p (lenOf acc), roomC p q (lenOf acc)⟩
      = some (.ret, [ownSl cP p (app acc (settleF f a gs))], ⟨na N 1, .cells (c6 a') :: O, roomP p (lenOf (app acc (settleF f a gs))), roomC p q (lenOf (app acc (settleF f a gs)))⟩) := by
  intro f
  induction f with
  | zero => intro a acc h; omega
  | succ f ih =>
    intro a acc hf hacc hs
    have hG1 : ∀ p' q', ∀ e ∈ gs, callA (lim tbl) (.fn (.func 115) [] [.ptr N 0]) [i64 (Int.ofNat e)] ⟨na N 1, .cells (c6 a) :: O, p', q'⟩ = some (.bool (decide (a e < 0)), ⟨na N 1, .cells (c6 a) :: O, p', q'⟩) := fun p' q' e he => by
      have := k115 a N e (hgs e he) ⟨na N 1, .cells (c6 a) :: O, p', q'⟩ (get_1_0 ..)
      show (if 115 < 4096 then one (lim tbl (.call 115 [i64 (Int.ofNat e), .ptr N 0]) _) else none) = _
      rw [if_pos (by omega), this]; rfl
    have hG2 : ∀ p' q', ∀ e ∈ gs, callA (lim tbl) (.fn (.func 116) [] [.ptr N 0]) [i64 (Int.ofNat e)] ⟨na N 1, .cells (c6 a) :: O, p', q'⟩ = some (.bool (decide (0 < a e)), ⟨na N 1, .cells (c6 a) :: O, p', q'⟩) := fun p' q' e he => by
      have := k116 a N e (hgs e he) ⟨na N 1, .cells (c6 a) :: O, p', q'⟩ (get_1_0 ..)
      show (if 116 < 4096 then one (lim tbl (.call 116 [i64 (Int.ofNat e), .ptr N 0]) _) else none) = _
      rw [if_pos (by omega), this]; rfl
    have c1 := fun p' q' => k114 (P := fun j => decide (a j < 0)) ⟨na N 1, .cells (c6 a) :: O, p', q'⟩ gs (by omega) (hG1 p' q')
    have c2 := fun p' q' => k114 (P := fun j => decide (0 < a j)) ⟨na N 1, .cells (c6 a) :: O, p', q'⟩ gs (by omega) (hG2 p' q')
    have hneg : ((-1 : Int) < 0) := by omega
    rw [settleF]
    cases h1 : gs.findIdx? (fun j => decide (a j < 0)) with
    | none =>
      rw [h1] at c1
      refine ⟨a, ?_⟩
      simp only [app_nil] at c1 ⊢
      rw [lim_loop]
      (try simp only [go_sem, ↓reduceIte, Nat.reduceAdd, Nat.reduceEqDiff, Nat.reduceLT, Nat.reduceLeDiff, Nat.reduceBEq, Int.reduceEq, Int.reduceLT, Int.reduceLE]); (repeat ((first | rw [c1] | rw [c2] | rw [lt_y hneg] | (rw [lt_yes]; rotate_left; (first | omega | (simp [lenOf, app]; omega) | (simp only [lenOf]; omega))) | (rw [lt_no]; rotate_left; (first | omega | (simp [lenOf, app]; omega) | (simp only [lenOf]; omega))) | (rw [idxA_at]; rotate_left; (first | omega | (simp [lenOf, app]; omega) | (simp only [lenOf]; omega))) | (rw [wr_up]; rotate_left; (first | omega | (simp [lenOf, app]; omega) | (simp only [lenOf]; omega))) | ((first | rw [drop_cI] | rw [drop_cE] | rw [drop_cS] | rw [drop_cP] | rw [drop_cR]); rotate_left; assumption)); try simp only [go_sem, ↓reduceIte, Nat.reduceAdd, Nat.reduceEqDiff, Nat.reduceLT, Nat.reduceLeDiff, Nat.reduceBEq, Int.reduceEq, Int.reduceLT, Int.reduceLE]))
    | some i =>
      rw [h1] at c1
      have hi0 : ¬ (Int.ofNat i) < 0 := by simp
      cases h2 : gs.findIdx? (fun j => decide (0 < a j)) with
      | none =>
        rw [h2] at c2
        refine ⟨a, ?_⟩
        simp only [app_nil] at c1 c2 ⊢
        rw [lim_loop]
        (try simp only [go_sem, ↓reduceIte, Nat.reduceAdd, Nat.reduceEqDiff, Nat.reduceLT, Nat.reduceLeDiff, Nat.reduceBEq, Int.reduceEq, Int.reduceLT, Int.reduceLE]); (repeat ((first | rw [c1] | rw [c2] | rw [lt_n hi0] | rw [lt_y hneg] | (rw [lt_yes]; rotate_left; (first | omega | (simp [lenOf, app]; omega) | (simp only [lenOf]; omega))) | (rw [lt_no]; rotate_left; (first | omega | (simp [lenOf, app]; omega) | (simp only [lenOf]; omega))) | (rw [idxA_at]; rotate_left; (first | omega | (simp [lenOf, app]; omega) | (simp only [lenOf]; omega))) | (rw [wr_up]; rotate_left; (first | omega | (simp [lenOf, app]; omega) | (simp only [lenOf]; omega))) | ((first | rw [drop_cI] | rw [drop_cE] | rw [drop_cS] | rw [drop_cP] | rw [drop_cR]); rotate_left; assumption)); try simp only [go_sem, ↓reduceIte, Nat.reduceAdd, Nat.reduceEqDiff, Nat.reduceLT, Nat.reduceLeDiff, Nat.reduceBEq, Int.reduceEq, Int.reduceLT, Int.reduceLE]))
      | some k =>
        rw [h2] at c2
        have hk0 : ¬ (Int.ofNat k) < 0 := by simp
        obtain ⟨hil, hia⟩ := find_get h1
        obtain ⟨hkl, hka⟩ := find_get h2
        simp only [decide_eq_true_eq] at hia hka
        have gx : gs.getD i 0 = gs[i] := by simp [hil]
        have gy : gs.getD k 0 = gs[k] := by simp [hkl]
        simp only [gx, gy]
        have mx' : gs[i] ∈ gs := List.getElem_mem hil
        have my' : gs[k] ∈ gs := List.getElem_mem hkl
        have ix : (ints gs)[i]? = some (Int.ofNat gs[i]) := map_get (List.getElem?_eq_getElem hil)
        have iy : (ints gs)[k]? = some (Int.ofNat gs[k]) := map_get (List.getElem?_eq_getElem hkl)
        generalize gs[i] = x at hia mx' ix ⊢
        generalize gs[k] = y at hka my' iy ⊢
        have hx6 := hgs x mx'
        have hy6 := hgs y my'
        have hxy : x ≠ y := fun h => by subst h; omega
        have hix : idxA (i64 (Int.ofNat i)) (lenOf (ints gs)) = some i := idxA_at (by simp [lenOf, ints]; omega)
        have hiy : idxA (i64 (Int.ofNat k)) (lenOf (ints gs)) = some k := idxA_at (by simp [lenOf, ints]; omega)
        have dx := drop_cI ix
        have dy := drop_cI iy
        have jx : idxA (i64 (Int.ofNat x)) 6 = some x := idxA_at hx6
        have jy : idxA (i64 (Int.ofNat y)) 6 = some y := idxA_at hy6
        have sx := hs x
        have sy := hs y
        have wneg : wr .i64 (Int.sub 0 (a x)) = -a x := by rw [fold_sub, wr_in] <;> omega
        have hn : mn (-a x) (a y) = -a x ∨ mn (-a x) (a y) = a y := by unfold mn; omega
        have hnp : 0 < mn (-a x) (a y) ∧ mn (-a x) (a y) ≤ -a x ∧ mn (-a x) (a y) ≤ a y := by unfold mn; omega
        generalize hnn : mn (-a x) (a y) = n at hn hnp ⊢
        have wadd : wr .i64 (Int.add (a x) n) = a x + n := by rw [fold_add, wr_in] <;> omega
        have hpy : put a x (a x + n) y = a y := by simp [put, Ne.symm hxy]
        have wsub : wr .i64 (Int.sub (put a x (a x + n) y) n) = put a x (a x + n) y - n := by rw [hpy, fold_sub, wr_in] <;> omega
        have n1 := nthO_c6 a hx6
        have n2 := nthO_c6 a hy6
        have n3 := nthO_c6 (put a x (a x + n)) hy6
        have p1 := fun s b => storeP_c6_1 s b a (a x + n) hx6
        have p2 := fun s b => storeP_c6_1 s b (put a x (a x + n)) (put a x (a x + n) y - n) hy6
        have happ := append_own (f := cP) (sz := 3) (fun _ => rfl) 24 p q (na N 1) (.cells (c6 (put (put a x (a x + n)) y (put a x (a x + n) y - n))) :: O) acc ⟨Int.ofNat x, Int.ofNat y, n⟩ [i64 (Int.ofNat x), i64 (Int.ofNat y), i64 n] rfl .full (by omega) (by omega)
        have hopen : openC (put (put a x (a x + n)) y (put a x (a x + n) y - n)) gs < openC a gs := by
          rcases hn with h | h
          · refine openC_lt (fun j _ hj => ?_) mx' (by omega) ?_
            · have h1 : j ≠ x := fun h => by subst h; omega
              have h2 : j ≠ y := fun h => by subst h; omega
              simp [put, h1, h2, hj]
            · simp [put, hxy]; omega
          · refine openC_lt (fun j _ hj => ?_) my' (by omega) ?_
            · have h1 : j ≠ x := fun h => by subst h; omega
              have h2 : j ≠ y := fun h => by subst h; omega
              simp [put, h1, h2, hj]
            · simp only [put, if_true, if_neg (Ne.symm hxy)]; omega
        have hsmall : Small (put (put a x (a x + n)) y (put a x (a x + n) y - n)) := fun j => by
          rw [hpy]
          unfold put
          by_cases h2 : j = y
          · subst h2; rw [if_pos rfl]; omega
          · rw [if_neg h2]
            by_cases h1 : j = x
            · subst h1; rw [if_pos rfl]; omega
            · rw [if_neg h1]; exact hs j
        obtain ⟨a', h'⟩ := ih _ (app acc [⟨Int.ofNat x, Int.ofNat y, n⟩]) (by omega) (by simp [app]; omega) hsmall
        refine ⟨a', ?_⟩
        simp only at c1 c2
        rw [app_assoc, lim_loop]
        generalize hR : some (_, _, _) = R at h' ⊢
        (try simp only [go_sem, ↓reduceIte, Nat.reduceAdd, Nat.reduceEqDiff, Nat.reduceLT, Nat.reduceLeDiff, Nat.reduceBEq, Int.reduceEq, Int.reduceLT, Int.reduceLE]); (repeat ((first | rw [c1] | rw [c2] | rw [lt_n hi0] | rw [lt_n hk0] | rw [hix] | rw [hiy] | rw [dx] | rw [dy] | rw [jx] | rw [jy] | rw [n1] | rw [n2] | rw [wneg] | rw [hnn] | rw [wadd] | rw [p1] | rw [n3] | rw [wsub] | rw [p2] | rw [happ] | (rw [lt_yes]; rotate_left; (first | omega | (simp [lenOf, app]; omega) | (simp only [lenOf]; omega))) | (rw [lt_no]; rotate_left; (first | omega | (simp [lenOf, app]; omega) | (simp only [lenOf]; omega))) | (rw [idxA_at]; rotate_left; (first | omega | (simp [lenOf, app]; omega) | (simp only [lenOf]; omega))) | (rw [wr_up]; rotate_left; (first | omega | (simp [lenOf, app]; omega) | (simp only [lenOf]; omega))) | ((first | rw [drop_cI] | rw [drop_cE] | rw [drop_cS] | rw [drop_cP] | rw [drop_cR]); rotate_left; assumption)); try simp only [go_sem, ↓reduceIte, Nat.reduceAdd, Nat.reduceEqDiff, Nat.reduceLT, Nat.reduceLeDiff, Nat.reduceBEq, Int.reduceEq, Int.reduceLT, Int.reduceLE]))
        exact h'
theorem k91 (a : Nat → Int) (m : Nat) (gs : List Nat) (hgs : ∀ j ∈ gs, j < 6) (hl : gs.length < 1000) (hs : Small a) (s : St) : lim tbl (.call 91 [.vref (c7 a m), sl cI (ints gs)]) s = some (.ret, [sl cP (settleF 1000 a gs)], s) := by
  obtain ⟨N, O, p, q⟩ := s
  have ho : openC a gs < 1000 := by have := openC_len a gs; omega
  obtain ⟨a', h0⟩ := l91 gs hgs hl N O p q 1000 a [] ho (by simp) hs
  rw [nil_app, ownSl_nil, show lenOf ([] : List Pay) = 0 from rfl, roomP_0, roomC_0] at h0
  rw [lim_call tbl_91]
  generalize settleF 1000 a gs = R at h0 ⊢
  (try simp only [go_sem, ↓reduceIte, Nat.reduceAdd, Nat.reduceEqDiff, Nat.reduceLT, Nat.reduceLeDiff, Nat.reduceBEq, Int.reduceEq, Int.reduceLT, Int.reduceLE]); (repeat ((first | rw [h0] | (rw [lt_yes]; rotate_left; (first | omega | (simp [lenOf, app]; omega) | (simp only [lenOf]; omega))) | (rw [lt_no]; rotate_left; (first | omega | (simp [lenOf, app]; omega) | (simp only [lenOf]; omega))) | (rw [idxA_at]; rotate_left; (first | omega | (simp [lenOf, app]; omega) | (simp only [lenOf]; omega))) | (rw [wr_up]; rotate_left; (first | omega | (simp [lenOf, app]; omega) | (simp only [lenOf]; omega))) | ((first | rw [drop_cI] | rw [drop_cE] | rw [drop_cS] | rw [drop_cP] | rw [drop_cR]); rotate_left; assumption)); try simp only [go_sem, ↓reduceIte, Nat.reduceAdd, Nat.reduceEqDiff, Nat.reduceLT, Nat.reduceLeDiff, Nat.reduceBEq, Int.reduceEq, Int.reduceLT, Int.reduceLE]))
end Go.Proofs.Ytlhfeiacigmliaa

/- The wash-house's soap: what the functions compute: Settle. -/
namespace Go.Proofs.Ytlhfeiacigmliaa
open Go
set_option maxRecDepth 10000

@[go_sem] theorem frz1_own_cP (n : Nat) (s : St) (sz p : Nat) (l : List Pay) : frz1 n s sz (ownSl cP p l) = some (sl cP l) := frz1_ownSl (fun _ => rfl) ..
theorem app_list {α : Type} {f : α → List AVal} {sz : Nat} (hf : ∀ a, (f a).length = sz) (bytes : Nat) (p : Nat) (q : Nat → Nat) (N : Nat) (O : List AObj) (l l' : List α) (h : (l.length + l'.length) * bytes ≤ 140737488355328) (h' : l.length + l'.length ≤ 140737488355328) :
    appendA sz bytes (ownSl f p l) (sl f l') ⟨N, O, roomP p (lenOf l), roomC p q (lenOf l)⟩ = some (ownSl f p (app l l'), ⟨N, O, roomP p (lenOf (app l l')), roomC p q (lenOf (app l l'))⟩) := by
  have he : elemsA ⟨N, O, roomP p (lenOf l), roomC p q (lenOf l)⟩ sz (sl f l') = some (l'.length, cellsOf f l') := by simp [elemsA, sl, lenOf, cells_length hf]
  unfold appendA
  rw [he]
  simp only [lenOf, app]
  cases l' with
  | nil =>
    rw [List.append_nil]
    simp only [List.length_nil, if_true]
    unfold ownSl
    by_cases hl : l.length = 0
    · simp [hl]
    · simp [hl]
  | cons b l' =>
    simp only [show (b :: l').length ≠ 0 by simp, if_false]
    cases l with
    | nil =>
      simp only [ownSl, roomP, roomC, lenOf, app, List.length_nil, if_true, List.nil_append, show (b :: l').length ≠ 0 by simp, if_false]
      simp only [List.length_nil, Nat.zero_add] at h h'
      rw [if_pos ⟨h, h'⟩]
      rfl
    | cons a l =>
      have hlen : (cellsOf f (a :: l)).length = (a :: l).length * sz := cells_length hf _
      simp only [ownSl, roomP, roomC, lenOf, app, show (a :: l).length ≠ 0 by simp, if_false, List.length_append, show (a :: l).length + (b :: l').length ≠ 0 by simp]
      rw [if_pos ⟨hlen, h, h'⟩]
      simp only [if_true]
      rw [if_pos ⟨trivial, by omega⟩]
      simp only [cells_append, Option.some.injEq, Prod.mk.injEq, true_and]
      simp only [St.grow, St.mk.injEq, true_and]
      funext x
      by_cases hx : x = p <;> simp [hx]
theorem Small.ow {es : List Ent} (w : Int) : ∀ {L : List Int} (n : Int) (B : Int), OkE es → areOz es L = true → -B ≤ n → n ≤ B → B + 80 * es.length ≤ 1000000 → -(B + 80 * es.length) ≤ owedUp n w es L ∧ owedUp n w es L ≤ B + 80 * es.length := by
  induction es with
  | nil =>
    intro L n B _ h h1 h2 h3
    cases L with
    | nil => simp only [owedUp, List.length_nil]; omega
    | cons x L => simp [areOz] at h
  | cons e es ih =>
    intro L n B ho h h1 h2 h3
    cases L with
    | nil => simp [areOz] at h
    | cons x L =>
      simp only [areOz, Bool.and_eq_true] at h
      obtain ⟨hx, h⟩ := h
      rw [within_iff] at hx
      have hoe := ho e (by simp)
      simp only [List.length_cons] at h3 ⊢
      rw [owedUp]
      have key : ∀ n', -(B + 80) ≤ n' → n' ≤ B + 80 → -(B + 80 * ((es.length + 1 : Nat) : Int)) ≤ owedUp n' w es L ∧ owedUp n' w es L ≤ B + 80 * ((es.length + 1 : Nat) : Int) := fun n' g1 g2 => by
        have := ih (L := L) n' (B + 80) (fun e he => ho e (by simp [he])) h g1 g2 (by omega)
        omega
      apply key
      · split <;> split
        · rw [wr_in (n := n + x) (by omega) (by omega), wr_in (by omega) (by omega)]; omega
        · rw [wr_in (n := n - x) (by omega) (by omega)]; omega
        · rw [wr_in (n := n + x) (by omega) (by omega)]; omega
        · omega
      · split <;> split
        · rw [wr_in (n := n + x) (by omega) (by omega), wr_in (by omega) (by omega)]; omega
        · rw [wr_in (n := n - x) (by omega) (by omega)]; omega
        · rw [wr_in (n := n + x) (by omega) (by omega)]; omega
        · omega
theorem small_ow {S : Slate} {L : List Int} (hG : Good S) (h : areOz S.es L = true) : Small (owV S.es L) := fun j => by
  have := Small.ow (es := S.es) (Int.ofNat j) (L := L) 0 0 hG.oe h (by omega) (by omega) (by have := hG.e6; omega)
  have h6 := hG.e6
  unfold owV; omega
/-- The numbers of a group. -/
def nats (l : List Int) : List Nat := l.map Int.toNat
def GrpOk (l : List Int) : Prop := l = ints (nats l) ∧ (∀ j ∈ nats l, j < 6) ∧ (nats l).length < 1000
theorem bits_ok {m : Nat} (h : m < 64) : GrpOk (bitsOf m) := by
  have hmem : ∀ x ∈ bitsOf m, ∃ j : Nat, j < 6 ∧ x = Int.ofNat j := by
    intro x hx
    unfold bitsOf upto at hx
    rw [List.mem_flatMap] at hx
    obtain ⟨j, _, hj⟩ := hx
    unfold bitF at hj
    split at hj
    · rename_i hb
      simp only [List.mem_singleton] at hj
      refine ⟨j, ?_, hj⟩
      rcases Nat.lt_or_ge j 6 with h1 | h1
      · exact h1
      · exfalso
        have : bshr m j = 0 := bshr_0 (Nat.lt_of_lt_of_le h (Nat.pow_le_pow_right (n := 2) (i := 6) (by omega) h1))
        rw [this] at hb; simp [bmod] at hb
    · simp at hj
  refine ⟨?_, ?_, ?_⟩
  · unfold ints nats
    rw [List.map_map]
    symm
    have : (bitsOf m).map (Int.ofNat ∘ Int.toNat) = (bitsOf m).map id := by
      apply List.map_congr_left
      intro x hx
      obtain ⟨j, _, rfl⟩ := hmem x hx
      rfl
    rw [this, List.map_id]
  · intro j hj
    unfold nats at hj
    rw [List.mem_map] at hj
    obtain ⟨x, hx, rfl⟩ := hj
    obtain ⟨j, h1, rfl⟩ := hmem x hx
    exact h1
  · unfold nats; rw [List.length_map]; have := bitsOf_len m; omega
theorem grp_ok (a : Nat → Int) : ∀ (f w g : Nat), w < 64 → g < 64 → ∀ l ∈ grp a f w g, GrpOk l
  | 0, _, _, _, _ => by simp [grp]
  | f + 1, w, g, hw, hg => by
    intro l hl
    rw [grp] at hl
    by_cases h0 : w = 0
    · rw [if_pos h0] at hl; simp at hl
    · rw [if_neg h0] at hl
      obtain ⟨x, hx, hx6, hlt⟩ := findI_ok a h0 hw
      rw [hx] at hl
      simp only at hl
      have hg' := bor_64 hg hx6
      split at hl
      · simp only [List.mem_cons] at hl
        rcases hl with hl | hl
        · subst hl; exact bits_ok hg'
        · exact grp_ok a f _ _ (by omega) (by omega) l hl
      · exact grp_ok a f _ _ (by omega) hg' l hl
theorem groups_ok (a : Nat → Int) : ∀ l ∈ groupsA a, GrpOk l := grp_ok a 64 _ _ (openN_lt a) (by omega)
theorem grp_len (a : Nat → Int) : ∀ (f w g : Nat), (grp a f w g).length ≤ f
  | 0, _, _ => by simp [grp]
  | f + 1, w, g => by
    rw [grp]
    split
    · simp
    · split
      · simp
      · split
        · simp only [List.length_cons]; exact Nat.succ_le_succ (grp_len a f _ 0)
        · exact Nat.le_succ_of_le (grp_len a f _ _)
theorem settleF_len : ∀ (f : Nat) (a : Nat → Int) (gs : List Nat), (settleF f a gs).length ≤ f
  | 0, _, _ => by simp [settleF]
  | f + 1, a, gs => by
    rw [settleF]
    split
    · simp only [List.length_cons]; exact Nat.succ_le_succ (settleF_len f _ gs)
    · simp
def settleG (a : Nat → Int) (g : List Int) : List Pay := settleF 1000 a (nats g)
def settleA (a : Nat → Int) : List Pay := (groupsA a).flatMap (settleG a)
theorem l53 (a : Nat → Int) (m : Nat) (hs : Small a) (G : List (List Int)) (hG : ∀ l ∈ G, GrpOk l) (hGl : G.length ≤ 64) (r : Nat) (N : Nat) (O : List AObj) (p : Nat) (q : Nat → Nat) : ∀ (k i : Nat) (acc : List Pay), i + k = G.length → acc.length ≤ i * 1000 →
    lim tbl (.loop a53_l0 37 ⟨[8, 9, 24, 25, 26], [8], []⟩ [ownSl cP p acc, .vref (c7 a m), ownSl cL r G, i64 (Int.ofNat (lenOf G)), i64 (Int.ofNat i)]) ⟨N, O, roomP p (lenOf acc), roomC p q (lenOf acc)⟩
      = some (.exit 0, [ownSl cP p (app acc ((G.drop i).flatMap (settleG a)))], ⟨N, O, roomP p (lenOf (app acc ((G.drop i).flatMap (settleG a)))), roomC p q (lenOf (app acc ((G.drop i).flatMap (settleG a))))⟩) := by
  intro k
  induction k with
  | zero =>
    intro i acc hi ha
    rw [List.drop_eq_nil_of_le (by omega), List.flatMap_nil, app_nil, lim_loop]
    (try simp only [go_sem, ↓reduceIte, Nat.reduceAdd, Nat.reduceEqDiff, Nat.reduceLT, Nat.reduceLeDiff, Nat.reduceBEq, Int.reduceEq, Int.reduceLT, Int.reduceLE]); (repeat ((first | (rw [lt_yes]; rotate_left; (first | omega | (simp [lenOf, app]; omega) | (simp only [lenOf]; omega))) | (rw [lt_no]; rotate_left; (first | omega | (simp [lenOf, app]; omega) | (simp only [lenOf]; omega))) | (rw [idxA_at]; rotate_left; (first | omega | (simp [lenOf, app]; omega) | (simp only [lenOf]; omega))) | (rw [wr_up]; rotate_left; (first | omega | (simp [lenOf, app]; omega) | (simp only [lenOf]; omega))) | ((first | rw [drop_cI] | rw [drop_cE] | rw [drop_cS] | rw [drop_cP] | rw [drop_cR]); rotate_left; assumption)); try simp only [go_sem, ↓reduceIte, Nat.reduceAdd, Nat.reduceEqDiff, Nat.reduceLT, Nat.reduceLeDiff, Nat.reduceBEq, Int.reduceEq, Int.reduceLT, Int.reduceLE]))
  | succ k ih =>
    intro i acc hi ha
    have hlt : i < G.length := by omega
    obtain ⟨g, hg, hd⟩ := getElem_drop hlt
    have hd' := drop_cL hg
    obtain ⟨h1, h2, h3⟩ := hG g (List.mem_of_getElem? hg)
    have h91 := fun s => k91 a m (nats g) h2 h3 hs s
    rw [← h1] at h91
    change ∀ s, _ = some (_, [sl cP (settleG a g)], s) at h91
    have hl := settleF_len 1000 a (nats g)
    change (settleG a g).length ≤ 1000 at hl
    have happ := app_list (f := cP) (sz := 3) (fun _ => rfl) 24 p q N O acc (settleG a g) (by omega) (by omega)
    have h' := ih (i + 1) (app acc (settleG a g)) (by omega) (by simp [app]; omega)
    rw [hd, List.flatMap_cons, app_app, lim_loop]
    generalize settleG a g = V at h91 happ h' ⊢
    generalize hR : some (_, _, _) = R at h' ⊢
    (try simp only [go_sem, ↓reduceIte, Nat.reduceAdd, Nat.reduceEqDiff, Nat.reduceLT, Nat.reduceLeDiff, Nat.reduceBEq, Int.reduceEq, Int.reduceLT, Int.reduceLE]); (repeat ((first | rw [hd'] | simp only [h91] | rw [happ] | (rw [lt_yes]; rotate_left; (first | omega | (simp [lenOf, app]; omega) | (simp only [lenOf]; omega))) | (rw [lt_no]; rotate_left; (first | omega | (simp [lenOf, app]; omega) | (simp only [lenOf]; omega))) | (rw [idxA_at]; rotate_left; (first | omega | (simp [lenOf, app]; omega) | (simp only [lenOf]; omega))) | (rw [wr_up]; rotate_left; (first | omega | (simp [lenOf, app]; omega) | (simp only [lenOf]; omega))) | ((first | rw [drop_cI] | rw [drop_cE] | rw [drop_cS] | rw [drop_cP] | rw [drop_cR]); rotate_left; assumption)); try simp only [go_sem, ↓reduceIte, Nat.reduceAdd, Nat.reduceEqDiff, Nat.reduceLT, Nat.reduceLeDiff, Nat.reduceBEq, Int.reduceEq, Int.reduceLT, Int.reduceLE]))
    exact h'
/-- What Settle returns. -/
def settleP (S : Slate) (L : List Int) : List Pay := if playErr S L = 0 then settleA (playOw S L) else []
theorem k53 (S : Slate) (L : List Int) (s : St) : lim tbl (.call 53 [vSl S, sl cI L]) s = some (.ret, [.tup [sl cP (settleP S L), i64 (playErr S L)]], s) := by
  have h79 := fun s => k79 S L good_of_check s
  rw [lim_call tbl_53]
  by_cases he : playErr S L = 0
  · have hb : settleP S L = settleA (playOw S L) := by simp [settleP, he]
    have hc := play_check he
    have hs : Small (playOw S L) := by
      unfold playErr at he
      rw [if_neg (by simp [hc])] at he
      split at he
      · rename_i ho
        rw [playOw, if_pos ⟨hc, ho⟩]; exact small_ow (good_of_check hc) ho
      · cases he
    rw [hb, he]
    rw [he] at h79
    generalize playOw S L = a at h79 hs ⊢
    obtain ⟨N, O, p, q⟩ := s
    have h80 := k80 a (na N 1) (.cells (c6 a) :: O) p q
    obtain ⟨M', Q', hE, h81⟩ := k81 a (na N 1) p q (na (na N 1) 1) (.map true [] :: .cells (c6 a) :: O) (fun x hx => by
      simp only [List.mem_singleton] at hx; subst hx
      exact ⟨[], gO_new .., fun y hy => by simp at hy⟩)
    have hgl := grp_len a 64 (openN a) 0
    change (groupsA a).length ≤ 64 at hgl
    have h0 := l53 a (na N 1) hs (groupsA a) (groups_ok a) hgl p M' Q' (roomP p (lenOf (groupsA a))) (roomC p q (lenOf (groupsA a))) (groupsA a).length 0 [] (by omega) (by simp)
    rw [List.drop_zero, nil_app, ownSl_nil, show lenOf ([] : List Pay) = 0 from rfl, roomP_0, roomC_0, ofNat_0] at h0
    change _ = some (_, [ownSl cP _ (settleA a)], (⟨_, _, roomP _ (lenOf (settleA a)), roomC _ _ (lenOf (settleA a))⟩ : St)) at h0
    have ho := hE.old N O (by simp [na]) (((OldO.refl N O).push _).push _)
    generalize settleA a = V at h0 ⊢
    generalize groupsA a = G at h81 h0
    have hold : Ytlhfeiacigmliaa.old ⟨N, O, p, q⟩ ⟨M', Q', roomP (roomP p (lenOf G)) (lenOf V), roomC (roomP p (lenOf G)) (roomC p q (lenOf G)) (lenOf V)⟩ = true := by
      simp only [Ytlhfeiacigmliaa.old, decide_eq_true_eq]
      exact ⟨ho.1, ho.2, fun x hx => roomC_old2 p q _ _ x hx⟩
    obtain ⟨w, es, ss⟩ := S
    (try simp only [go_sem, ↓reduceIte, Nat.reduceAdd, Nat.reduceEqDiff, Nat.reduceLT, Nat.reduceLeDiff, Nat.reduceBEq, Int.reduceEq, Int.reduceLT, Int.reduceLE]); (repeat ((first | simp only [h79] | rw [h80] | rw [h81] | rw [h0] | rw [hold] | (rw [lt_yes]; rotate_left; (first | omega | (simp [lenOf, app]; omega) | (simp only [lenOf]; omega))) | (rw [lt_no]; rotate_left; (first | omega | (simp [lenOf, app]; omega) | (simp only [lenOf]; omega))) | (rw [idxA_at]; rotate_left; (first | omega | (simp [lenOf, app]; omega) | (simp only [lenOf]; omega))) | (rw [wr_up]; rotate_left; (first | omega | (simp [lenOf, app]; omega) | (simp only [lenOf]; omega))) | ((first | rw [drop_cI] | rw [drop_cE] | rw [drop_cS] | rw [drop_cP] | rw [drop_cR]); rotate_left; assumption)); try simp only [go_sem, ↓reduceIte, Nat.reduceAdd, Nat.reduceEqDiff, Nat.reduceLT, Nat.reduceLeDiff, Nat.reduceBEq, Int.reduceEq, Int.reduceLT, Int.reduceLE]))
  · have hb : settleP S L = [] := by simp [settleP, he]
    rw [hb]
    generalize playErr S L = e at h79 he ⊢
    generalize playOw S L = A at h79 ⊢
    obtain ⟨w, es, ss⟩ := S
    obtain ⟨N, O, p, q⟩ := s
    (try simp only [go_sem, ↓reduceIte, Nat.reduceAdd, Nat.reduceEqDiff, Nat.reduceLT, Nat.reduceLeDiff, Nat.reduceBEq, Int.reduceEq, Int.reduceLT, Int.reduceLE]); (repeat ((first | simp only [h79] | rw [eq_n he] | (rw [lt_yes]; rotate_left; (first | omega | (simp [lenOf, app]; omega) | (simp only [lenOf]; omega))) | (rw [lt_no]; rotate_left; (first | omega | (simp [lenOf, app]; omega) | (simp only [lenOf]; omega))) | (rw [idxA_at]; rotate_left; (first | omega | (simp [lenOf, app]; omega) | (simp only [lenOf]; omega))) | (rw [wr_up]; rotate_left; (first | omega | (simp [lenOf, app]; omega) | (simp only [lenOf]; omega))) | ((first | rw [drop_cI] | rw [drop_cE] | rw [drop_cS] | rw [drop_cP] | rw [drop_cR]); rotate_left; assumption)); try simp only [go_sem, ↓reduceIte, Nat.reduceAdd, Nat.reduceEqDiff, Nat.reduceLT, Nat.reduceLeDiff, Nat.reduceBEq, Int.reduceEq, Int.reduceLT, Int.reduceLE]))
end Go.Proofs.Ytlhfeiacigmliaa

/- The wash-house's soap: what the functions compute: are lists groups; small lists. -/
namespace Go.Proofs.Ytlhfeiacigmliaa
open Go
set_option maxRecDepth 10000

section
variable (n : Nat) (es : List Ent) (ss : List Say) (L : List Int) (hn : n ≤ 6) (hE : es.length < 1000000) (hL : L.length = es.length) (G : List (List Int))
include hn hE hL
end
end Go.Proofs.Ytlhfeiacigmliaa

/- The wash-house's soap: what the functions compute: the document's first examples. -/
namespace Go.Proofs.Ytlhfeiacigmliaa
open Go
set_option maxRecDepth 10000

@[go_sem] theorem repl_12 (a : AVal) : List.replicate 12 a = [a, a, a, a, a, a, a, a, a, a, a, a] := (rfl)
/-- A function that forgets takes its arguments in their normal form. -/
theorem call_norm {T : Nat → Option AFun} {k : Nat} {F : AFun} (h : T k = some F) {sz : Nat} (hg : F.gc = some sz) {args args' : List AVal} (hn : norms args = norms args') (s : St) (hi : isIce (some sz) = false := by rfl) : lim T (.call k args) s = lim T (.call k args') s := by
  have hi' : isIce F.gc = false := by rw [hg]; exact hi
  rw [lim_call h hi', lim_call h hi', hg, frameV_some, frameV_some, hn]
def fourS (k : Nat) : Slate := ⟨4, [⟨0, 1, ⟨2, 3⟩⟩, ⟨1, 2, ⟨2, 2⟩⟩, ⟨3, 2, ⟨1, 4⟩⟩], ([⟨2, ⟨-4, -3⟩⟩, ⟨1, ⟨-1, -1⟩⟩, ⟨0, ⟨2, 2⟩⟩] : List Say).take k⟩
@[go_sem] theorem k72 (a b : Int) (s : St) : lim tbl (.call 72 [i64 a, i64 b]) s = some (.ret, [.agg [i64 a, i64 b]], s) := by
  rw [lim_call tbl_72]; obtain ⟨N, O, p, q⟩ := s
  (try simp only [go_sem, ↓reduceIte, Nat.reduceAdd, Nat.reduceEqDiff, Nat.reduceLT, Nat.reduceLeDiff, Nat.reduceBEq, Int.reduceEq, Int.reduceLT, Int.reduceLE]); (repeat ((first | (rw [lt_yes]; rotate_left; (first | omega | (simp [lenOf, app]; omega) | (simp only [lenOf]; omega))) | (rw [lt_no]; rotate_left; (first | omega | (simp [lenOf, app]; omega) | (simp only [lenOf]; omega))) | (rw [idxA_at]; rotate_left; (first | omega | (simp [lenOf, app]; omega) | (simp only [lenOf]; omega))) | (rw [wr_up]; rotate_left; (first | omega | (simp [lenOf, app]; omega) | (simp only [lenOf]; omega))) | ((first | rw [drop_cI] | rw [drop_cE] | rw [drop_cS] | rw [drop_cP] | rw [drop_cR]); rotate_left; assumption)); try simp only [go_sem, ↓reduceIte, Nat.reduceAdd, Nat.reduceEqDiff, Nat.reduceLT, Nat.reduceLeDiff, Nat.reduceBEq, Int.reduceEq, Int.reduceLT, Int.reduceLE]))
section
variable (a b d e f g h i j : AVal) (pm : Perm)
theorem hi9_0 : sliceHi 3 (.vsl [a, b, d, e, f, g, h, i, j] 3 pm) (i64 0) = some (.vsl [] 0 .no) := rfl
theorem hi9_1 : sliceHi 3 (.vsl [a, b, d, e, f, g, h, i, j] 3 pm) (i64 1) = some (.vsl [a, b, d] 1 .no) := rfl
theorem hi9_3 : sliceHi 3 (.vsl [a, b, d, e, f, g, h, i, j] 3 pm) (i64 3) = some (.vsl [a, b, d, e, f, g, h, i, j] 3 .no) := rfl
end
theorem k71_0 (s : St) : lim tbl (.call 71 [i64 0]) s = some (.ret, [vSl (fourS 0)], s) := by
  rw [lim_call tbl_71]; obtain ⟨N, O, p, q⟩ := s
  (try simp only [go_sem, ↓reduceIte, Nat.reduceAdd, Nat.reduceEqDiff, Nat.reduceLT, Nat.reduceLeDiff, Nat.reduceBEq, Int.reduceEq, Int.reduceLT, Int.reduceLE]); (repeat ((first | rw [hi9_0] | (rw [lt_yes]; rotate_left; (first | omega | (simp [lenOf, app]; omega) | (simp only [lenOf]; omega))) | (rw [lt_no]; rotate_left; (first | omega | (simp [lenOf, app]; omega) | (simp only [lenOf]; omega))) | (rw [idxA_at]; rotate_left; (first | omega | (simp [lenOf, app]; omega) | (simp only [lenOf]; omega))) | (rw [wr_up]; rotate_left; (first | omega | (simp [lenOf, app]; omega) | (simp only [lenOf]; omega))) | ((first | rw [drop_cI] | rw [drop_cE] | rw [drop_cS] | rw [drop_cP] | rw [drop_cR]); rotate_left; assumption)); try simp only [go_sem, ↓reduceIte, Nat.reduceAdd, Nat.reduceEqDiff, Nat.reduceLT, Nat.reduceLeDiff, Nat.reduceBEq, Int.reduceEq, Int.reduceLT, Int.reduceLE]))
  rfl
theorem k71_1 (s : St) : lim tbl (.call 71 [i64 1]) s = some (.ret, [vSl (fourS 1)], s) := by
  rw [lim_call tbl_71]; obtain ⟨N, O, p, q⟩ := s
  (try simp only [go_sem, ↓reduceIte, Nat.reduceAdd, Nat.reduceEqDiff, Nat.reduceLT, Nat.reduceLeDiff, Nat.reduceBEq, Int.reduceEq, Int.reduceLT, Int.reduceLE]); (repeat ((first | rw [hi9_1] | (rw [lt_yes]; rotate_left; (first | omega | (simp [lenOf, app]; omega) | (simp only [lenOf]; omega))) | (rw [lt_no]; rotate_left; (first | omega | (simp [lenOf, app]; omega) | (simp only [lenOf]; omega))) | (rw [idxA_at]; rotate_left; (first | omega | (simp [lenOf, app]; omega) | (simp only [lenOf]; omega))) | (rw [wr_up]; rotate_left; (first | omega | (simp [lenOf, app]; omega) | (simp only [lenOf]; omega))) | ((first | rw [drop_cI] | rw [drop_cE] | rw [drop_cS] | rw [drop_cP] | rw [drop_cR]); rotate_left; assumption)); try simp only [go_sem, ↓reduceIte, Nat.reduceAdd, Nat.reduceEqDiff, Nat.reduceLT, Nat.reduceLeDiff, Nat.reduceBEq, Int.reduceEq, Int.reduceLT, Int.reduceLE]))
  rfl
theorem k71_3 (s : St) : lim tbl (.call 71 [i64 3]) s = some (.ret, [vSl (fourS 3)], s) := by
  rw [lim_call tbl_71]; obtain ⟨N, O, p, q⟩ := s
  (try simp only [go_sem, ↓reduceIte, Nat.reduceAdd, Nat.reduceEqDiff, Nat.reduceLT, Nat.reduceLeDiff, Nat.reduceBEq, Int.reduceEq, Int.reduceLT, Int.reduceLE]); (repeat ((first | rw [hi9_3] | (rw [lt_yes]; rotate_left; (first | omega | (simp [lenOf, app]; omega) | (simp only [lenOf]; omega))) | (rw [lt_no]; rotate_left; (first | omega | (simp [lenOf, app]; omega) | (simp only [lenOf]; omega))) | (rw [idxA_at]; rotate_left; (first | omega | (simp [lenOf, app]; omega) | (simp only [lenOf]; omega))) | (rw [wr_up]; rotate_left; (first | omega | (simp [lenOf, app]; omega) | (simp only [lenOf]; omega))) | ((first | rw [drop_cI] | rw [drop_cE] | rw [drop_cS] | rw [drop_cP] | rw [drop_cR]); rotate_left; assumption)); try simp only [go_sem, ↓reduceIte, Nat.reduceAdd, Nat.reduceEqDiff, Nat.reduceLT, Nat.reduceLeDiff, Nat.reduceBEq, Int.reduceEq, Int.reduceLT, Int.reduceLE]))
  rfl
theorem x52 (s : St) : lim tbl (.call 52 [vSl (fourS 0), .vsl [i64 3, i64 2, i64 1] 3 .full]) s = some (.ret, [.tup [sl cI [3, -1, -3, 1], i64 0]], s) := by
  have h1 : playL (fourS 0) [3, 2, 1] = [3, -1, -3, 1] := by kernel_rfl
  have h2 : playErr (fourS 0) [3, 2, 1] = 0 := by kernel_rfl
  have h := k52 (fourS 0) [3, 2, 1] good_of_check s
  rw [h1, h2] at h
  rw [← h]
  exact call_norm tbl_52 rfl (by kernel_rfl) s
theorem x23 (s : St) : lim tbl (.call 23 [vSl (fourS 1)]) s = some (.ret, [.tup [.vsl [i64 2, i64 3, i64 (-1), i64 0, i64 (-4), i64 (-3), i64 1, i64 2] 4 .no, i64 0]], s) := by
  have h1 : boundsL (fourS 1) = [⟨2, 3⟩, ⟨-1, 0⟩, ⟨-4, -3⟩, ⟨1, 2⟩] := by kernel_rfl
  have h2 : askedErr (fourS 1) = 0 := by kernel_rfl
  have h := k23 (fourS 1) s
  rw [h1, h2] at h
  exact h
theorem x25 (s : St) : lim tbl (.call 25 [vSl (fourS 0)]) s = some (.ret, [.tup [sl cI [2, 3, 1, 2], i64 0]], s) := by
  have h1 : (boundsL (fourS 0)).map owesF = [2, 3, 1, 2] := by kernel_rfl
  have h2 : askedErr (fourS 0) = 0 := by kernel_rfl
  have h := k25 (fourS 0) s
  rw [h1, h2] at h
  exact h
theorem x53 (s : St) : lim tbl (.call 53 [vSl (fourS 0), .vsl [i64 2, i64 2, i64 4] 3 .full]) s = some (.ret, [.tup [sl cP [⟨2, 0, 2⟩, ⟨2, 3, 4⟩], i64 0]], s) := by
  have h1 : settleP (fourS 0) [2, 2, 4] = [⟨2, 0, 2⟩, ⟨2, 3, 4⟩] := by kernel_rfl
  have h2 : playErr (fourS 0) [2, 2, 4] = 0 := by kernel_rfl
  have h := k53 (fourS 0) [2, 2, 4] s
  rw [h1, h2] at h
  rw [← h]
  exact call_norm tbl_53 rfl (by kernel_rfl) s
theorem x30 (s : St) : lim tbl (.call 30 [vSl (fourS 0), .vsl [i64 3, i64 2, i64 1] 3 .full]) s = some (.ret, [.tup [sl cL [[0, 2], [1, 3]], i64 0]], s) := by
  have h1 : groupsP (fourS 0) [3, 2, 1] = [[0, 2], [1, 3]] := by kernel_rfl
  have h2 : playErr (fourS 0) [3, 2, 1] = 0 := by kernel_rfl
  have h := k30 (fourS 0) [3, 2, 1] s
  rw [h1, h2] at h
  rw [← h]
  exact call_norm tbl_30 rfl (by kernel_rfl) s
theorem x38 (s : St) : lim tbl (.call 38 [vSl (fourS 0)]) s = some (.ret, [.tup [.agg [i64 2, i64 3], i64 0]], s) := by
  have h1 : fewestP (fourS 0) = (2, 3) := by kernel_rfl
  have h2 : askedErr (fourS 0) = 0 := by kernel_rfl
  have h := k38 (fourS 0) s
  rw [h1, h2] at h
  exact h
theorem x40 (s : St) : lim tbl (.call 40 [vSl (fourS 3)]) s = some (.ret, [.tup [i64 2, i64 0]], s) := by
  have h1 : firstA (fourS 3) = 2 := by kernel_rfl
  have h2 : firstE (fourS 3) = 0 := by kernel_rfl
  have h := k40 (fourS 3) s
  rw [h1, h2] at h
  exact h
theorem x41 (s : St) : lim tbl (.call 41 [vSl (fourS 3)]) s = some (.ret, [.tup [sl cI [1], i64 0]], s) := by
  have h1 : leaveL (fourS 3) = [1] := by kernel_rfl
  have h2 : checkSlate (fourS 3) = 0 := by kernel_rfl
  have h := k41 (fourS 3) s
  rw [h1, h2] at h
  exact h
theorem x43 (a : List Int) (cs : List AVal) (n : Nat) (h : sl cI a = .vsl cs n .no) (hn : norms cs = cs) (hl : a.length < 1000) (s : St) : lim tbl (.call 43 [sl cI a, .vsl cs n .full]) s = some (.ret, [.bool true], s) := by
  have h1 := k43 a a (by omega) s
  have h2 : sameL a a = true := by simp [sameL]
  rw [h2] at h1
  rw [← h1]
  refine call_norm tbl_43 rfl ?_ s
  rw [h]; simp [norms, AVal.norm, hn]
/-- The document's first examples are returned. -/
theorem k22 (s : St) : lim tbl (.call 22 []) s = some (.ret, [.bool true], s) := by
  have a1 := fun s => x43 [3, -1, -3, 1] [i64 3, i64 (-1), i64 (-3), i64 1] 4 rfl rfl (by simp) s
  have a2 := fun s => x43 [2, 3, 1, 2] [i64 2, i64 3, i64 1, i64 2] 4 rfl rfl (by simp) s
  have a3 := fun s => x43 [1] [i64 1] 1 rfl rfl (by simp) s
  have l2 : lenOf ([⟨2, 0, 2⟩, ⟨2, 3, 4⟩] : List Pay) = 2 := rfl
  have l3 : lenOf ([[0, 2], [1, 3]] : List (List Int)) = 2 := rfl
  rw [lim_call tbl_22]; obtain ⟨N, O, p, q⟩ := s
  (try simp only [go_sem, ↓reduceIte, Nat.reduceAdd, Nat.reduceEqDiff, Nat.reduceLT, Nat.reduceLeDiff, Nat.reduceBEq, Int.reduceEq, Int.reduceLT, Int.reduceLE]); (repeat ((first | simp only [k71_0, k71_1, k71_3] | simp only [x52, x23, x25, x53, x30, x38, x40, x41] | simp only [a1, a2, a3] | rw [l2] | rw [l3] | (rw [lt_yes]; rotate_left; (first | omega | (simp [lenOf, app]; omega) | (simp only [lenOf]; omega))) | (rw [lt_no]; rotate_left; (first | omega | (simp [lenOf, app]; omega) | (simp only [lenOf]; omega))) | (rw [idxA_at]; rotate_left; (first | omega | (simp [lenOf, app]; omega) | (simp only [lenOf]; omega))) | (rw [wr_up]; rotate_left; (first | omega | (simp [lenOf, app]; omega) | (simp only [lenOf]; omega))) | ((first | rw [drop_cI] | rw [drop_cE] | rw [drop_cS] | rw [drop_cP] | rw [drop_cR]); rotate_left; assumption)); try simp only [go_sem, ↓reduceIte, Nat.reduceAdd, Nat.reduceEqDiff, Nat.reduceLT, Nat.reduceLeDiff, Nat.reduceBEq, Int.reduceEq, Int.reduceLT, Int.reduceLE]))
end Go.Proofs.Ytlhfeiacigmliaa

/- The wash-house's soap, plain law: all ounces are gone through by the program as by the document; which sayings are right together. -/
namespace Go.Proofs.Ytlhfeiacigmliaa
open Go
set_option maxRecDepth 10000

theorem mem_rngUp {x : Int} : ∀ {m : Nat} {v : Int}, x ∈ rngUp v m ↔ v ≤ x ∧ x < v + m
  | 0, v => by simp [rngUp]
  | m + 1, v => by
    rw [rngUp, List.mem_cons, mem_rngUp]
    push_cast
    omega
theorem mem_ozs : ∀ {es : List Ent} {L : List Int}, OkE es → (L ∈ ozs es ↔ areOz es L = true)
  | [], L, _ => by
    cases L with
    | nil => simp [ozs, areOz]
    | cons a L => simp [ozs, areOz]
  | e :: es, L, h => by
    have ih := fun L => mem_ozs (es := es) (L := L) fun e he => h e (by simp [he])
    have he := h e (by simp)
    rw [ozs, List.mem_flatMap]
    constructor
    · rintro ⟨v, hv, hL⟩
      rw [List.mem_map] at hL
      obtain ⟨L', h1, rfl⟩ := hL
      rw [mem_rngUp] at hv
      simp only [areOz, Bool.and_eq_true, within_iff]
      refine ⟨?_, (ih L').1 h1⟩
      unfold szN at hv; omega
    · intro hL
      cases L with
      | nil => simp [areOz] at hL
      | cons v L =>
        simp only [areOz, Bool.and_eq_true, within_iff] at hL
        refine ⟨v, ?_, List.mem_map.2 ⟨L, (ih L).2 hL.2, rfl⟩⟩
        rw [mem_rngUp]; unfold szN; omega
theorem nth_areOz : ∀ {es : List Ent} (_ : OkE es) (n : Nat), areOz es (nthRef es n) = true
  | [], _, n => rfl
  | e :: es, h, n => by
    have he := h e (by simp)
    have hp := szN_pos he.2.1
    rw [nthRef]
    simp only [areOz, Bool.and_eq_true, within_iff]
    refine ⟨?_, nth_areOz (fun e he => h e (by simp [he])) _⟩
    have hm : n % szN e.oz.lo e.oz.hi < szN e.oz.lo e.oz.hi := Nat.mod_lt _ (Nat.pos_of_ne_zero hp)
    unfold bmod
    simp only [Int.ofNat_eq_natCast]
    have : ((szN e.oz.lo e.oz.hi : Nat) : Int) = e.oz.hi - e.oz.lo + 1 := by unfold szN; omega
    omega
theorem areOz_nth : ∀ {es : List Ent} (_ : OkE es) {L : List Int}, areOz es L = true → ∃ n, n < prodN es ∧ nthRef es n = L
  | [], _, L, h => by
    cases L with
    | nil => exact ⟨0, by simp [prodN], rfl⟩
    | cons a L => simp [areOz] at h
  | e :: es, ho, L, h => by
    cases L with
    | nil => simp [areOz] at h
    | cons v L =>
      simp only [areOz, Bool.and_eq_true, within_iff] at h
      have he := ho e (by simp)
      have hp := szN_pos he.2.1
      obtain ⟨n, hn, hL⟩ := areOz_nth (fun e he => ho e (by simp [he])) h.2
      have hsz : ((szN e.oz.lo e.oz.hi : Nat) : Int) = e.oz.hi - e.oz.lo + 1 := by unfold szN; omega
      obtain ⟨k, hk⟩ : ∃ k : Nat, v = e.oz.lo + (k : Int) := ⟨(v - e.oz.lo).toNat, by omega⟩
      have hkl : k < szN e.oz.lo e.oz.hi := by omega
      generalize hz : szN e.oz.lo e.oz.hi = z at *
      refine ⟨k + z * n, ?_, ?_⟩
      · rw [prodN, hz]
        have : z * n + z ≤ z * prodN es := by
          have := Nat.mul_le_mul_left z (show n + 1 ≤ prodN es by omega)
          rwa [Nat.mul_add, Nat.mul_one] at this
        omega
      · rw [nthRef, hz]
        have h1 : bmod (k + z * n) z = k := by unfold bmod; rw [Nat.add_mul_mod_self_left, Nat.mod_eq_of_lt hkl]
        have h2 : (k + z * n) / z = n := by rw [Nat.add_mul_div_left _ _ (by omega), Nat.div_eq_of_lt hkl]; omega
        rw [h1, h2, hL, hk]; rfl

theorem bor_test (a i j : Nat) : (bor a (pw i)).testBit j = (a.testBit j || decide (i = j)) := by
  unfold bor pw; rw [Nat.testBit_or, Nat.testBit_two_pow]
theorem orUp_test (P : Say → Bool) : ∀ (l : List Say) (n i j : Nat), (orUp P n i l).testBit j = (n.testBit j || (decide (i ≤ j) && (match l[j - i]? with | some x => P x | none => false)))
  | [], n, i, j => by simp [orUp]
  | x :: l, n, i, j => by
    rw [orUp, orUp_test P l]
    by_cases hij : i = j
    · subst hij
      have h1 : ¬ i + 1 ≤ i := by omega
      simp only [h1, decide_false, Bool.false_and, Bool.or_false, Nat.le_refl, decide_true, Bool.true_and, Nat.sub_self, List.getElem?_cons_zero]
      cases hx : P x with
      | true => simp [bor_test]
      | false => simp
    · have h0 : (if P x then bor n (pw i) else n).testBit j = n.testBit j := by
        cases P x with
        | true => simp [bor_test, hij]
        | false => rfl
      rw [h0]
      by_cases hlt : i < j
      · have h1 : j - i = (j - (i + 1)) + 1 := by omega
        have h2 : i + 1 ≤ j := hlt
        have h3 : i ≤ j := by omega
        rw [h1]; simp [h2, h3]
      · have h2 : ¬ i + 1 ≤ j := by omega
        have h3 : ¬ i ≤ j := by omega
        simp [h2, h3]
/-- A saying is right by its bit. -/
theorem rightN_test (S : Slate) (L : List Int) (j : Nat) : (rightN S L).testBit j = (match S.ss[j]? with | some x => rightOk S.es L x | none => false) := by
  unfold rightN
  rw [orUp_test]; simp
theorem band_iff (a m : Nat) : band a m = m ↔ ∀ i, m.testBit i = true → a.testBit i = true := by
  unfold band
  constructor
  · intro h i hi
    have := congrArg (fun x => x.testBit i) h
    simp only [Nat.testBit_and, hi, Bool.and_true] at this
    exact this
  · intro h
    apply Nat.eq_of_testBit_eq
    intro i
    rw [Nat.testBit_and]
    cases hm : m.testBit i with
    | false => simp
    | true => simp [h i hm]
theorem hasI_iff (L : List Int) (i : Nat) : hasI L (Int.ofNat i) = true ↔ Int.ofNat i ∈ L := by
  simp [hasI]
theorem rightUp_iff (a : Nat → Int) (out : List Int) : ∀ (l : List Say) (i : Nat), rightUp a out i l = true ↔ ∀ j x, l[j]? = some x → (Int.ofNat (i + j) ∈ out ∨ within (a x.w.toNat) x.ow.lo x.ow.hi = true)
  | [], i => by simp [rightUp]
  | x :: l, i => by
    rw [rightUp]
    simp only [Bool.and_eq_true, Bool.or_eq_true, hasI_iff]
    rw [rightUp_iff a out l (i + 1)]
    constructor
    · rintro ⟨h1, h2⟩ j y hy
      cases j with
      | zero => simp only [List.getElem?_cons_zero, Option.some.injEq] at hy; subst hy; exact h1
      | succ j =>
        have := h2 j y (by simpa using hy)
        rwa [show i + (j + 1) = i + 1 + j by omega]
    · intro h
      refine ⟨h 0 x rfl, fun j y hy => ?_⟩
      have := h (j + 1) y (by simpa using hy)
      rwa [show i + (j + 1) = i + 1 + j by omega] at this
/-- The numbers of all ounces' right sayings. -/
def allN (S : Slate) : List Nat := (List.range' 0 (prodN S.es)).map fun n => rightN S (nthRef S.es n)
theorem can_iff {S : Slate} (hG : Good S) (m : Nat) : can (allN S) m = true ↔ ∃ L, areOz S.es L = true ∧ ∀ i, m.testBit i = true → (rightN S L).testBit i = true := by
  unfold can anyB allN
  rw [List.any_eq_true]
  constructor
  · rintro ⟨a, ha, hb⟩
    rw [List.mem_map] at ha
    obtain ⟨n, _, rfl⟩ := ha
    exact ⟨_, nth_areOz hG.oe n, (band_iff _ _).1 (of_decide_eq_true hb)⟩
  · rintro ⟨L, hL, hb⟩
    obtain ⟨n, hn, rfl⟩ := areOz_nth hG.oe hL
    exact ⟨_, List.mem_map.2 ⟨n, by rw [List.mem_range'_1]; omega, rfl⟩, decide_eq_true ((band_iff _ _).2 hb)⟩
theorem possible_iff {S : Slate} (hG : Good S) (out : List Int) : possibleB S out = true ↔ ∃ L, areOz S.es L = true ∧ ∀ i x, S.ss[i]? = some x → Int.ofNat i ∈ out ∨ rightOk S.es L x = true := by
  unfold possibleB
  rw [List.any_eq_true]
  have key : ∀ (L : List Int) (i : Nat) (x : Say), S.ss[i]? = some x → within (owV S.es L x.w.toNat) x.ow.lo x.ow.hi = rightOk S.es L x := by
    intro L i x hx
    obtain ⟨u, _, hu⟩ := hG.os x (List.mem_of_getElem? hx)
    unfold owV rightOk
    rw [hu]; rfl
  constructor
  · rintro ⟨L, h1, h2⟩
    refine ⟨L, (mem_ozs hG.oe).1 h1, fun i x hx => ?_⟩
    have := (rightUp_iff _ _ _ _).1 h2 i x hx
    rwa [Nat.zero_add, key L i x hx] at this
  · rintro ⟨L, h1, h2⟩
    refine ⟨L, (mem_ozs hG.oe).2 h1, (rightUp_iff _ _ _ _).2 fun i x hx => ?_⟩
    rw [Nat.zero_add, key L i x hx]; exact h2 i x hx
/-- Sayings are possible by the program as by the document. -/
theorem possible_can {S : Slate} (hG : Good S) (out : List Int) (m : Nat) (hm : ∀ i, m.testBit i = true ↔ i < S.ss.length ∧ Int.ofNat i ∉ out) : possibleB S out = can (allN S) m := by
  rw [Bool.eq_iff_iff, possible_iff hG, can_iff hG]
  constructor
  · rintro ⟨L, h1, h2⟩
    refine ⟨L, h1, fun i hi => ?_⟩
    obtain ⟨hl, hn⟩ := (hm i).1 hi
    rw [rightN_test, List.getElem?_eq_getElem hl]
    rcases h2 i _ (List.getElem?_eq_getElem hl) with h | h
    · exact absurd h hn
    · exact h
  · rintro ⟨L, h1, h2⟩
    refine ⟨L, h1, fun i x hx => ?_⟩
    by_cases hin : Int.ofNat i ∈ out
    · exact Or.inl hin
    · right
      have hl : i < S.ss.length := by
        rcases Nat.lt_or_ge i S.ss.length with h | h
        · exact h
        · rw [List.getElem?_eq_none h] at hx; cases hx
      have := h2 i ((hm i).2 ⟨hl, hin⟩)
      rwa [rightN_test, hx] at this
end Go.Proofs.Ytlhfeiacigmliaa

/- The wash-house's soap, plain law: what is asked of all truths is as the document says. -/
namespace Go.Proofs.Ytlhfeiacigmliaa
open Go
set_option maxRecDepth 10000

theorem fullN_test' (n i : Nat) : (fullN n).testBit i = decide (i < n) := by
  unfold fullN pw; rw [Nat.testBit_two_pow_sub_one]
/-- All sayings are right with these ounces. -/
def AllRight (S : Slate) (L : List Int) : Prop := ∀ (i : Nat) (x : Say), S.ss[i]? = some x → rightOk S.es L x = true
theorem full_iff (S : Slate) (L : List Int) : rightN S L = fullN (lenOf S.ss) ↔ AllRight S L := by
  constructor
  · intro h i x hx
    have hl : i < S.ss.length := by
      rcases Nat.lt_or_ge i S.ss.length with h | h
      · exact h
      · rw [List.getElem?_eq_none h] at hx; cases hx
    have h1 : (rightN S L).testBit i = true := by rw [h, fullN_test']; exact decide_eq_true hl
    rwa [rightN_test, hx] at h1
  · intro h
    apply Nat.eq_of_testBit_eq
    intro i
    rw [rightN_test, fullN_test']
    by_cases hl : i < S.ss.length
    · have := h i _ (List.getElem?_eq_getElem hl)
      rw [List.getElem?_eq_getElem hl]
      simp only [this]
      exact (decide_eq_true hl).symm
    · rw [List.getElem?_eq_none (by omega)]
      exact (decide_eq_false hl).symm
theorem right_all {S : Slate} (hG : Good S) (L : List Int) : rightUp (owV S.es L) [] 0 S.ss = true ↔ AllRight S L := by
  rw [rightUp_iff]
  constructor
  · intro h i x hx
    obtain ⟨u, _, hu⟩ := hG.os x (List.mem_of_getElem? hx)
    rcases h i x hx with h | h
    · simp at h
    · unfold owV at h; unfold rightOk; rw [hu] at h ⊢; exact h
  · intro h i x hx
    obtain ⟨u, _, hu⟩ := hG.os x (List.mem_of_getElem? hx)
    right
    have := h i x hx
    unfold rightOk at this; unfold owV; rw [hu] at this ⊢; exact this
theorem mem_truths {S : Slate} (hG : Good S) (L : List Int) : L ∈ truths S (prodN S.es) ↔ areOz S.es L = true ∧ AllRight S L := by
  unfold truths upto
  rw [List.mem_flatMap]
  constructor
  · rintro ⟨n, _, h⟩
    unfold truthF at h
    split at h
    · rename_i hf
      simp only [List.mem_singleton] at h
      subst h
      exact ⟨nth_areOz hG.oe n, (full_iff _ _).1 hf⟩
    · simp at h
  · rintro ⟨h1, h2⟩
    obtain ⟨n, hn, rfl⟩ := areOz_nth hG.oe h1
    refine ⟨n, by rw [List.mem_range'_1]; omega, ?_⟩
    unfold truthF
    rw [if_pos ((full_iff _ _).2 h2)]; simp
theorem eq6_refl (a : Nat → Int) : eq6 a a = true := by simp [eq6]
theorem eq6_at {a b : Nat → Int} (h : eq6 a b = true) {j : Nat} (hj : j < 6) : a j = b j := by
  simp only [eq6, Bool.and_eq_true, decide_eq_true_eq, and_true] at h
  obtain ⟨h0, h1, h2, h3, h4, h5⟩ := h
  match j, hj with
  | 0, _ | 1, _ | 2, _ | 3, _ | 4, _ | 5, _ => assumption
/-- What has been asked: of each truth so far, and of truths alone. -/
theorem asked_inv {S : Slate} (hG : Good S) : ∀ (l : List (List Int)) (vs : List (Nat → Int)) (done : List (List Int)), (∀ L ∈ l, areOz S.es L = true) →
    (∀ a ∈ vs, ∃ L, areOz S.es L = true ∧ AllRight S L ∧ a = owV S.es L) → (∀ L ∈ done, AllRight S L → ∃ a ∈ vs, eq6 a (owV S.es L) = true) →
    (∀ a ∈ (iterL (fun _ _ => true) (askStep S.es S.ss) l vs).1, ∃ L, areOz S.es L = true ∧ AllRight S L ∧ a = owV S.es L) ∧
    (∀ L, L ∈ done ∨ L ∈ l → AllRight S L → ∃ a ∈ (iterL (fun _ _ => true) (askStep S.es S.ss) l vs).1, eq6 a (owV S.es L) = true)
  | [], vs, done, _, h2, h3 => ⟨h2, fun L hL => by
      rcases hL with hL | hL
      · exact h3 L hL
      · simp at hL⟩
  | L :: l, vs, done, h1, h2, h3 => by
    have hL := h1 L (by simp)
    have key : (∀ a ∈ askStep S.es S.ss vs L, ∃ L, areOz S.es L = true ∧ AllRight S L ∧ a = owV S.es L) ∧ (∀ K ∈ L :: done, AllRight S K → ∃ a ∈ askStep S.es S.ss vs L, eq6 a (owV S.es K) = true) := by
      unfold askStep
      cases hr : rightUp (owV S.es L) [] 0 S.ss with
      | false =>
        simp only [Bool.false_and, Bool.false_eq_true, if_false]
        refine ⟨h2, fun K hK hA => ?_⟩
        simp only [List.mem_cons] at hK
        rcases hK with hK | hK
        · subst hK
          rw [(right_all hG K).2 hA] at hr; cases hr
        · exact h3 K hK hA
      | true =>
        simp only [Bool.true_and]
        have hA := (right_all hG L).1 hr
        have add : (∀ a ∈ vs ++ [owV S.es L], ∃ L, areOz S.es L = true ∧ AllRight S L ∧ a = owV S.es L) ∧ (∀ K ∈ L :: done, AllRight S K → ∃ a ∈ vs ++ [owV S.es L], eq6 a (owV S.es K) = true) := by
          refine ⟨fun a ha => ?_, fun K hK hA => ?_⟩
          · simp only [List.mem_append, List.mem_singleton] at ha
            rcases ha with ha | ha
            · exact h2 a ha
            · exact ⟨L, hL, ‹_›, ha⟩
          · simp only [List.mem_cons] at hK
            rcases hK with hK | hK
            · subst hK; exact ⟨_, by simp, eq6_refl _⟩
            · obtain ⟨a, ha, he⟩ := h3 K hK hA
              exact ⟨a, by simp [ha], he⟩
        cases hg : vs.getLast? with
        | none => simpa using add
        | some a =>
          simp only
          by_cases he : eq6 a (owV S.es L) = true
          · rw [if_neg (by rw [he]; simp)]
            refine ⟨h2, fun K hK hA => ?_⟩
            simp only [List.mem_cons] at hK
            rcases hK with hK | hK
            · subst hK; exact ⟨a, List.mem_of_getLast? hg, he⟩
            · exact h3 K hK hA
          · rw [if_pos (by simpa using he)]; exact add
    rw [iterL]
    simp only [if_true]
    obtain ⟨i1, i2⟩ := asked_inv hG l (askStep S.es S.ss vs L) (L :: done) (fun K hK => h1 K (by simp [hK])) key.1 key.2
    refine ⟨i1, fun K hK => i2 K ?_⟩
    simp only [List.mem_cons] at hK ⊢
    rcases hK with hK | hK | hK
    · exact Or.inl (Or.inr hK)
    · exact Or.inl (Or.inl hK)
    · exact Or.inr hK
theorem asked_truth {S : Slate} (hG : Good S) {a : Nat → Int} (ha : a ∈ asked S) : ∃ L ∈ truths S (prodN S.es), a = owV S.es L := by
  obtain ⟨h1, _⟩ := asked_inv hG (ozs S.es) [] [] (fun L hL => (mem_ozs hG.oe).1 hL) (by simp) (by simp)
  obtain ⟨L, g1, g2, g3⟩ := h1 a ha
  exact ⟨L, (mem_truths hG L).2 ⟨g1, g2⟩, g3⟩
theorem truth_asked {S : Slate} (hG : Good S) {L : List Int} (hL : L ∈ truths S (prodN S.es)) : ∃ a ∈ asked S, eq6 a (owV S.es L) = true := by
  obtain ⟨g1, g2⟩ := (mem_truths hG L).1 hL
  obtain ⟨_, h2⟩ := asked_inv hG (ozs S.es) [] [] (fun L hL => (mem_ozs hG.oe).1 hL) (by simp) (by simp)
  exact h2 L (Or.inr ((mem_ozs hG.oe).2 g1)) g2
theorem err_eq (S : Slate) : askedErr S = sureErr S := by
  unfold askedErr sureErr
  by_cases hc : checkSlate S = 0
  · have hG := good_of_check hc
    have : (asked S = []) ↔ (truths S (prodN S.es) = []) := by
      constructor
      · intro h
        cases ht : truths S (prodN S.es) with
        | nil => rfl
        | cons L l =>
          obtain ⟨a, ha, _⟩ := truth_asked hG (L := L) (by rw [ht]; simp)
          rw [h] at ha; simp at ha
      · intro h
        cases ht : asked S with
        | nil => rfl
        | cons a l =>
          obtain ⟨L, hL, _⟩ := asked_truth hG (a := a) (by rw [ht]; simp)
          rw [h] at hL; simp at hL
    by_cases ha : asked S = []
    · simp only [hc, ne_eq, not_true_eq_false, if_false, ha, this.1 ha, if_true]
    · have hb : ¬ truths S (prodN S.es) = [] := fun h => ha (this.2 h)
      simp only [hc, ne_eq, not_true_eq_false, if_false, ha, hb]
  · simp only [ne_eq, hc, not_false_eq_true, if_true]

theorem pbUp_spec (val : (Nat → Int) → Int) : ∀ (l : List (Nat → Int)) (lo hi : Int), ((pbUp lo hi val l).1 ≤ lo ∧ hi ≤ (pbUp lo hi val l).2) ∧ (∀ a ∈ l, (pbUp lo hi val l).1 ≤ val a ∧ val a ≤ (pbUp lo hi val l).2) ∧
    ((pbUp lo hi val l).1 = lo ∨ ∃ a ∈ l, (pbUp lo hi val l).1 = val a) ∧ ((pbUp lo hi val l).2 = hi ∨ ∃ a ∈ l, (pbUp lo hi val l).2 = val a)
  | [], lo, hi => by simp [pbUp]
  | a :: l, lo, hi => by
    obtain ⟨⟨h1, h2⟩, h3, h4, h5⟩ := pbUp_spec val l (mn lo (val a)) (mx hi (val a))
    rw [pbUp]
    have hm : mn lo (val a) ≤ lo ∧ mn lo (val a) ≤ val a ∧ (mn lo (val a) = lo ∨ mn lo (val a) = val a) := by unfold mn; omega
    have hx : hi ≤ mx hi (val a) ∧ val a ≤ mx hi (val a) ∧ (mx hi (val a) = hi ∨ mx hi (val a) = val a) := by unfold mx; omega
    refine ⟨⟨by omega, by omega⟩, fun b hb => ?_, ?_, ?_⟩
    · simp only [List.mem_cons] at hb
      rcases hb with hb | hb
      · subst hb; exact ⟨by omega, by omega⟩
      · exact h3 b hb
    · rcases h4 with h | ⟨b, hb, h⟩
      · rcases hm.2.2 with g | g
        · left; omega
        · right; exact ⟨a, by simp, by omega⟩
      · right; exact ⟨b, by simp [hb], h⟩
    · rcases h5 with h | ⟨b, hb, h⟩
      · rcases hx.2.2 with g | g
        · left; omega
        · right; exact ⟨a, by simp, by omega⟩
      · right; exact ⟨b, by simp [hb], h⟩
theorem pBounds_spec (val : (Nat → Int) → Int) (l : List (Nat → Int)) (h0 : l ≠ []) : (∀ a ∈ l, (pBounds val l).1 ≤ val a ∧ val a ≤ (pBounds val l).2) ∧ (∃ a ∈ l, (pBounds val l).1 = val a) ∧ (∃ a ∈ l, (pBounds val l).2 = val a) := by
  cases l with
  | nil => exact absurd rfl h0
  | cons a l =>
    rw [pBounds]
    obtain ⟨⟨h1, h2⟩, h3, h4, h5⟩ := pbUp_spec val l (mn (val a) (val a)) (mx (val a) (val a))
    have hm : mn (val a) (val a) = val a := by unfold mn; omega
    have hx : mx (val a) (val a) = val a := by unfold mx; omega
    refine ⟨fun b hb => ?_, ?_, ?_⟩
    · simp only [List.mem_cons] at hb
      rcases hb with hb | hb
      · subst hb; exact ⟨by omega, by omega⟩
      · exact h3 b hb
    · rcases h4 with h | ⟨b, hb, h⟩
      · exact ⟨a, by simp, by omega⟩
      · exact ⟨b, by simp [hb], h⟩
    · rcases h5 with h | ⟨b, hb, h⟩
      · exact ⟨a, by simp, by omega⟩
      · exact ⟨b, by simp [hb], h⟩
end Go.Proofs.Ytlhfeiacigmliaa

/- The plain law of groups: the most groups, as the program counts them, are as many as the document's. -/
namespace Go.Proofs.Ytlhfeiacigmliaa
open Go
set_option maxRecDepth 100000

def term (a : Nat → Int) (w i : Nat) : Int := if w.testBit i then a i else 0
def ps (a : Nat → Int) (w : Nat) : Int := term a w 0 + term a w 1 + term a w 2 + term a w 3 + term a w 4 + term a w 5
def Sb (g w : Nat) : Prop := ∀ i, g.testBit i = true → w.testBit i = true
theorem bor_t (a b i : Nat) : (bor a b).testBit i = (a.testBit i || b.testBit i) := by unfold bor; rw [Nat.testBit_or]
theorem bsub_t (a b i : Nat) : (bsub a b).testBit i = (a.testBit i && !b.testBit i) := by
  unfold bsub; rw [Nat.testBit_and, Nat.testBit_xor]
  cases a.testBit i <;> cases b.testBit i <;> rfl
theorem band_t (a b i : Nat) : (band a b).testBit i = (a.testBit i && b.testBit i) := by unfold band; rw [Nat.testBit_and]
theorem pw_t (i j : Nat) : (pw i).testBit j = decide (i = j) := by unfold pw; rw [Nat.testBit_two_pow]
theorem sb_band {g w : Nat} (h : Sb g w) : band g w = g := by
  apply Nat.eq_of_testBit_eq
  intro i
  rw [band_t]
  cases hg : g.testBit i with
  | false => rfl
  | true => rw [h i hg]; rfl
theorem Sb.refl (w : Nat) : Sb w w := fun _ h => h
theorem Sb.trans {a b c : Nat} (h : Sb a b) (h' : Sb b c) : Sb a c := fun i hi => h' i (h i hi)
theorem sb_sub (w g : Nat) : Sb (bsub w g) w := fun i h => by rw [bsub_t, Bool.and_eq_true] at h; exact h.1
theorem Sb.le {a b : Nat} (h : Sb a b) : a ≤ b := by rw [← sb_band h]; exact Nat.and_le_right
theorem sub_comm (w g g' : Nat) : bsub (bsub w g) g' = bsub (bsub w g') g := by
  apply Nat.eq_of_testBit_eq
  intro i
  simp only [bsub_t]
  cases w.testBit i <;> cases g.testBit i <;> cases g'.testBit i <;> rfl
theorem term_sub (a : Nat → Int) {w g : Nat} (h : Sb g w) (i : Nat) : term a (bsub w g) i = term a w i - term a g i := by
  unfold term
  rw [bsub_t]
  have := h i
  cases hw : w.testBit i <;> cases hg : g.testBit i <;> simp_all
theorem ps_sub (a : Nat → Int) {w g : Nat} (h : Sb g w) : ps a (bsub w g) = ps a w - ps a g := by
  unfold ps; simp only [term_sub a h]; omega
theorem ps_zero (a : Nat → Int) : ps a 0 = 0 := by simp [ps, term]
theorem ps_congr {a b : Nat → Int} {w : Nat} (h : ∀ i, i < 6 → w.testBit i = true → a i = b i) : ps a w = ps b w := by
  have ht : ∀ i, i < 6 → term a w i = term b w i := by
    intro i hi
    unfold term
    cases hw : w.testBit i with
    | false => rfl
    | true => simp [h i hi hw]
  unfold ps
  rw [ht 0 (by omega), ht 1 (by omega), ht 2 (by omega), ht 3 (by omega), ht 4 (by omega), ht 5 (by omega)]
inductive Part (a : Nat → Int) : Nat → Nat → Prop
  | nil : Part a 0 0
  | cons {w g n : Nat} (h0 : g ≠ 0) (hs : Sb g w) (hz : ps a g = 0) (h : Part a (bsub w g) n) : Part a w (n + 1)
theorem Part.sum {a : Nat → Int} {w n : Nat} (h : Part a w n) : ps a w = 0 := by
  induction h with
  | nil => exact ps_zero a
  | cons h0 hs hz h ih => rw [ps_sub a hs] at ih; omega
theorem Part.congr {a b : Nat → Int} {w n : Nat} (h : Part a w n) (hab : ∀ i, i < 6 → w.testBit i = true → a i = b i) : Part b w n := by
  induction h with
  | nil => exact .nil
  | cons h0 hs hz h ih =>
    exact .cons h0 hs (by rw [← ps_congr fun i hi hg => hab i hi (hs i hg)]; exact hz) (ih fun i hi hg => hab i hi (sb_sub _ _ i hg))
theorem Part.extract {a : Nat → Int} {w n : Nat} (h : Part a w n) : ∀ f, w.testBit f = true → ∃ g m, n = m + 1 ∧ Sb g w ∧ g.testBit f = true ∧ ps a g = 0 ∧ Part a (bsub w g) m := by
  induction h with
  | nil => intro f hf; simp at hf
  | @cons w g n h0 hs hz h ih =>
    intro f hf
    by_cases hg : g.testBit f = true
    · exact ⟨g, n, rfl, hs, hg, hz, h⟩
    · have hf' : (bsub w g).testBit f = true := by rw [bsub_t, hf]; simp [hg]
      obtain ⟨g', m, rfl, h1, h2, h3, h4⟩ := ih f hf'
      refine ⟨g', m + 1, rfl, h1.trans (sb_sub w g), h2, h3, .cons h0 ?_ hz ?_⟩
      · intro i hi
        rw [bsub_t, hs i hi]
        cases hi' : g'.testBit i with
        | false => rfl
        | true =>
          have := h1 i hi'
          rw [bsub_t, hi] at this; simp at this
      · rw [sub_comm]; exact h4
def pc (w : Nat) : Nat := (bitsOf w).length
theorem pc_facts : ∀ w, w < 64 → pc w ≤ 6 ∧ ∀ g, g < 64 → g ≠ 0 → band g w = g → pc (bsub w g) + 1 ≤ pc w := by
  have h : ((List.range 64).all fun w => decide (pc w ≤ 6) && (List.range 64).all fun g => decide (g = 0) || (!decide (band g w = g) || decide (pc (bsub w g) + 1 ≤ pc w))) = true := by kernel_rfl
  intro w hw
  rw [List.all_eq_true] at h
  have h1 := h w (by simpa using hw)
  rw [Bool.and_eq_true, decide_eq_true_eq] at h1
  refine ⟨h1.1, fun g hg h2 h3 => ?_⟩
  have h4 := h1.2
  rw [List.all_eq_true] at h4
  have h5 := h4 g (by simpa using hg)
  simpa [h2, h3] using h5
theorem Part.le {a : Nat → Int} {w n : Nat} (h : Part a w n) : w < 64 → n ≤ pc w := by
  induction h with
  | nil => intro _; omega
  | @cons w g n h0 hs hz h ih =>
    intro hw
    have h1 := ih (Nat.lt_of_le_of_lt (sb_sub w g).le hw)
    have h2 := (pc_facts w hw).2 g (Nat.lt_of_le_of_lt hs.le hw) h0 (sb_band hs)
    omega

end Go.Proofs.Ytlhfeiacigmliaa

/- The plain law of what is owed, and of the groups that the program returns. -/
namespace Go.Proofs.Ytlhfeiacigmliaa
open Go
set_option maxRecDepth 100000

def OkW (w : Nat) (es : List Ent) : Prop := ∀ e ∈ es, ∃ f t : Nat, f < w ∧ t < w ∧ f ≠ t ∧ e.fr = Int.ofNat f ∧ e.to = Int.ofNat t
theorem okw_of_check {S : Slate} (h : checkSlate S = 0) : OkW S.women.toNat S.es := by
  unfold checkSlate at h
  split at h
  · cases h
  split at h
  · cases h
  rename_i h1 h2
  simp only [Bool.or_eq_true, decide_eq_true_eq, not_or, Int.not_lt, Bool.not_eq_true', Bool.not_eq_false] at h1 h2
  obtain ⟨⟨h1, h3⟩, h4⟩ := h1
  obtain ⟨⟨h2, h5⟩, h6⟩ := h2
  have hw : wr .i64 (S.women - 1) = S.women - 1 := wr_in (by omega) (by omega)
  simp only [allB, List.all_eq_true] at h5
  intro e he
  have := h5 e he
  simp only [entOk, pair, woman, hw, Bool.and_eq_true, within_iff, Bool.not_eq_true', decide_eq_false_iff_not] at this
  obtain ⟨⟨⟨a1, a2⟩, ⟨b1, b2⟩, b3⟩, _⟩ := this
  exact ⟨e.fr.toNat, e.to.toNat, by omega, by omega, by omega, by simp; omega, by simp; omega⟩
theorem openUp_t (a : Nat → Int) (j : Nat) : ∀ (k i n : Nat), (openUp a n i k).testBit j = (n.testBit j || decide (i ≤ j ∧ j < i + k ∧ a j ≠ 0))
  | 0, i, n => by
    have : ¬ (i ≤ j ∧ j < i + 0 ∧ a j ≠ 0) := by omega
    simp only [openUp, this, decide_false, Bool.or_false]
  | k + 1, i, n => by
    rw [openUp, openUp_t a j k (i + 1)]
    by_cases hz : a i = 0
    · rw [if_pos hz]
      congr 2
      apply propext
      constructor
      · rintro ⟨h1, h2, h3⟩; exact ⟨by omega, by omega, h3⟩
      · rintro ⟨h1, h2, h3⟩
        have : i ≠ j := fun h => h3 (by rw [← h]; exact hz)
        exact ⟨by omega, by omega, h3⟩
    · rw [if_neg hz, bor_t, pw_t, Bool.or_assoc]
      congr 1
      by_cases hij : i = j
      · subst hij; simp [hz]
      · simp only [hij, decide_false, Bool.false_or]
        congr 1
        apply propext
        constructor
        · rintro ⟨h1, h2, h3⟩; exact ⟨by omega, by omega, h3⟩
        · rintro ⟨h1, h2, h3⟩; exact ⟨by omega, by omega, h3⟩
theorem open_t (a : Nat → Int) (j : Nat) : (openN a).testBit j = decide (j < 6 ∧ a j ≠ 0) := by
  unfold openN
  rw [openUp_t]
  simp
end Go.Proofs.Ytlhfeiacigmliaa

/- The wash-house's soap, plain law: the first wrong saying, and the smallest set, are as the document says. -/
namespace Go.Proofs.Ytlhfeiacigmliaa
open Go
set_option maxRecDepth 10000

theorem fullN_test (n i : Nat) : (fullN n).testBit i = decide (i < n) := by
  unfold fullN pw; rw [Nat.testBit_two_pow_sub_one]
theorem bsub_test (a b i : Nat) : (bsub a b).testBit i = (a.testBit i && !b.testBit i) := by
  unfold bsub; rw [Nat.testBit_and, Nat.testBit_xor]
  cases a.testBit i <;> cases b.testBit i <;> rfl
theorem beforeL_trans : ∀ {a b c : List Int}, beforeL a b = true → beforeL b c = true → beforeL a c = true
  | [], [], _, h, _ => by simp [beforeL] at h
  | [], _ :: _, [], _, h => by simp [beforeL] at h
  | [], _ :: _, _ :: _, _, _ => rfl
  | _ :: _, [], _, h, _ => by simp [beforeL] at h
  | _ :: _, _ :: _, [], _, h => by simp [beforeL] at h
  | x :: a, y :: b, z :: c, h, h' => by
    simp only [beforeL] at h h' ⊢
    by_cases h1 : x = y
    · subst h1
      rw [if_pos rfl] at h
      by_cases h2 : x = z
      · subst h2
        rw [if_pos rfl] at h' ⊢
        exact beforeL_trans h h'
      · rw [if_neg h2] at h' ⊢; exact h'
    · rw [if_neg h1, decide_eq_true_eq] at h
      by_cases h2 : y = z
      · subst h2; rw [if_neg h1, decide_eq_true_eq]; exact h
      · rw [if_neg h2, decide_eq_true_eq] at h'
        rw [if_neg (by omega), decide_eq_true_eq]; omega
theorem beforeL_irrefl : ∀ a : List Int, beforeL a a = false
  | [] => rfl
  | x :: a => by rw [beforeL, if_pos rfl]; exact beforeL_irrefl a
theorem shorterL_iff {a b : List Int} : shorterL a b = true ↔ a.length < b.length ∨ a.length = b.length ∧ beforeL a b = true := by
  unfold shorterL
  rw [Bool.or_eq_true, Bool.and_eq_true, decide_eq_true_iff, decide_eq_true_iff]
  exact Iff.rfl
theorem shorterL_trans {a b c : List Int} (h : shorterL a b = true) (h' : shorterL b c = true) : shorterL a c = true := by
  rw [shorterL_iff] at *
  rcases h with h | ⟨h, g⟩ <;> rcases h' with h' | ⟨h', g'⟩
  · left; omega
  · left; omega
  · left; omega
  · right; exact ⟨by omega, beforeL_trans g g'⟩
theorem shorterL_irrefl (a : List Int) : shorterL a a = false := by
  cases h : shorterL a a with
  | false => rfl
  | true =>
    rw [shorterL_iff] at h
    rcases h with h | ⟨_, h⟩
    · omega
    · rw [beforeL_irrefl] at h; cases h

theorem leave_min (ns : List Nat) (F : Nat) : ∀ (k b : Nat) (best : List Int),
    (leaveUp ns F k b best = best ∨ ∃ b', b ≤ b' ∧ b' < b + k ∧ leaveUp ns F k b best = bitsOf b' ∧ can ns (bsub F b') = true) ∧
    (leaveUp ns F k b best = best ∨ shorterL (leaveUp ns F k b best) best = true) ∧
    ∀ b', b ≤ b' → b' < b + k → can ns (bsub F b') = true → shorterL (bitsOf b') (leaveUp ns F k b best) = false
  | 0, b, best => by
    refine ⟨Or.inl rfl, Or.inl rfl, fun b' h1 h2 => by omega⟩
  | k + 1, b, best => by
    rw [leaveUp]
    cases hs : shorterL (bitsOf b) best && can ns (bsub F b) with
    | true =>
      simp only [if_true]
      simp only [Bool.and_eq_true] at hs
      obtain ⟨i1, i2, i3⟩ := leave_min ns F k (b + 1) (bitsOf b)
      refine ⟨?_, ?_, fun b' h1 h2 h3 => ?_⟩
      · right
        rcases i1 with h | ⟨b', h1, h2, h3, h4⟩
        · exact ⟨b, by omega, by omega, h, hs.2⟩
        · exact ⟨b', by omega, by omega, h3, h4⟩
      · right
        rcases i2 with h | h
        · rw [h]; exact hs.1
        · exact shorterL_trans h hs.1
      · by_cases he : b' = b
        · subst he
          rcases i2 with h | h
          · rw [h]; exact shorterL_irrefl _
          · cases hx : shorterL (bitsOf b') (leaveUp ns F k (b' + 1) (bitsOf b')) with
            | false => rfl
            | true => have := shorterL_trans hx h; rw [shorterL_irrefl] at this; cases this
        · exact i3 b' (by omega) (by omega) h3
    | false =>
      simp only [Bool.false_eq_true, if_false]
      obtain ⟨i1, i2, i3⟩ := leave_min ns F k (b + 1) best
      refine ⟨?_, i2, fun b' h1 h2 h3 => ?_⟩
      · rcases i1 with h | ⟨b', h1, h2, h3, h4⟩
        · exact Or.inl h
        · exact Or.inr ⟨b', by omega, by omega, h3, h4⟩
      · by_cases he : b' = b
        · subst he
          rw [h3, Bool.and_true] at hs
          rcases i2 with h | h
          · rw [h]; exact hs
          · cases hx : shorterL (bitsOf b') (leaveUp ns F k (b' + 1) best) with
            | false => rfl
            | true => have := shorterL_trans hx h; rw [this] at hs; cases hs
        · exact i3 b' (by omega) (by omega) h3

def allSets (n : Nat) : List (List Int) := (List.range' 0 (n + 1)).flatMap fun j => combs n j 0
def pairB (l : List (List Int)) : Bool := match l with
  | [] => true
  | a :: l => (l.all fun b => shorterL a b) && pairB l
theorem sets_mem : ∀ n, n ≤ 5 → ∀ b, b < pw n → bitsOf b ∈ allSets n := by
  have h : ((List.range 6).all fun n => (List.range (pw n)).all fun b => (allSets n).contains (bitsOf b)) = true := by kernel_rfl
  intro n hn b hb
  rw [List.all_eq_true] at h
  have h1 := h n (by simp; omega)
  rw [List.all_eq_true] at h1
  have h2 := h1 b (by simpa using hb)
  simpa using h2
theorem sets_bits : ∀ n, n ≤ 5 → ∀ l ∈ allSets n, ∃ b, b < pw n ∧ l = bitsOf b := by
  have h : ((List.range 6).all fun n => (allSets n).all fun l => (List.range (pw n)).any fun b => l == bitsOf b) = true := by kernel_rfl
  intro n hn l hl
  rw [List.all_eq_true] at h
  have h1 := h n (by simp; omega)
  rw [List.all_eq_true] at h1
  have h2 := h1 l hl
  rw [List.any_eq_true] at h2
  obtain ⟨b, hb, he⟩ := h2
  exact ⟨b, by simpa using hb, by simpa using he⟩
theorem sets_pair : ∀ n, n ≤ 5 → pairB (allSets n) = true := by
  have h : ((List.range 6).all fun n => pairB (allSets n)) = true := by kernel_rfl
  intro n hn
  rw [List.all_eq_true] at h
  exact h n (by simp; omega)
theorem pairB_split : ∀ {pre : List (List Int)} {x : List Int} {post : List (List Int)}, pairB (pre ++ x :: post) = true → ∀ y ∈ post, shorterL x y = true
  | [], x, post, h, y, hy => by
    simp only [List.nil_append, pairB, Bool.and_eq_true, List.all_eq_true] at h
    exact h.1 y hy
  | a :: pre, x, post, h, y, hy => by
    simp only [List.cons_append, pairB, Bool.and_eq_true] at h
    exact pairB_split h.2 y hy
theorem tried_split (S : Slate) : ∀ (l : List (List Int)) (x : List Int), (∃ a ∈ l, possibleB S a = true) → ∃ pre a post, l = pre ++ a :: post ∧ possibleB S a = true ∧ (∀ y ∈ pre, possibleB S y = false) ∧ (tried S l x).1 = a
  | [], _, h => by obtain ⟨a, ha, _⟩ := h; simp at ha
  | b :: l, x, h => by
    unfold tried
    rw [iterL]
    cases hb : possibleB S b with
    | true => exact ⟨[], b, l, rfl, hb, by simp, by simp⟩
    | false =>
      obtain ⟨a, ha, hp⟩ := h
      simp only [List.mem_cons] at ha
      have ha' : a ∈ l := by
        rcases ha with ha | ha
        · subst ha; rw [hb] at hp; cases hp
        · exact ha
      obtain ⟨pre, c, post, e1, e2, e3, e4⟩ := tried_split S l b ⟨a, ha', hp⟩
      refine ⟨b :: pre, c, post, by rw [e1]; rfl, e2, fun y hy => ?_, ?_⟩
      · simp only [List.mem_cons] at hy
        rcases hy with hy | hy
        · rw [hy]; exact hb
        · exact e3 y hy
      · simpa [tried] using e4
theorem mem_bitsOf {b i : Nat} (hi : i < 60) : Int.ofNat i ∈ bitsOf b ↔ b.testBit i = true := by
  unfold bitsOf upto
  rw [List.mem_flatMap]
  have hb : ∀ j, (bmod (bshr b j) 2 = 1) = (b.testBit j = true) := fun j => by
    rw [Nat.testBit_eq_decide_div_mod_eq, decide_eq_true_eq]
    unfold bmod bshr; rw [Nat.shiftRight_eq_div_pow]
  constructor
  · rintro ⟨j, _, hj⟩
    unfold bitF at hj
    split at hj
    · rename_i ht
      rw [hb] at ht
      simp only [List.mem_singleton] at hj
      have : i = j := Int.ofNat.inj hj
      subst this; exact ht
    · simp at hj
  · intro ht
    refine ⟨i, by rw [List.mem_range'_1]; omega, ?_⟩
    unfold bitF
    rw [if_pos (by rw [hb]; exact ht)]; simp
/-- The smallest sets are the same. -/
theorem leave_eq {S : Slate} (hc : checkSlate S = 0) : leaveL S = leaveRef (allN S) (lenOf S.ss) := by
  have hG := good_of_check hc
  have hn : S.ss.length ≤ 5 := hG.s5
  have hl : leaveL S = (tried S (allSets S.ss.length) []).1 := by
    unfold leaveL allSets; rw [if_neg (by simp [hc])]
  have hP : ∀ b, b < pw S.ss.length → possibleB S (bitsOf b) = can (allN S) (bsub (fullN S.ss.length) b) := fun b hb => by
    refine possible_can hG _ _ fun i => ?_
    rw [bsub_test, fullN_test]
    simp only [Bool.and_eq_true, decide_eq_true_eq, Bool.not_eq_true']
    constructor
    · rintro ⟨h1, h2⟩
      refine ⟨h1, fun h3 => ?_⟩
      rw [mem_bitsOf (by omega), h2] at h3; cases h3
    · rintro ⟨h1, h2⟩
      refine ⟨h1, ?_⟩
      rw [mem_bitsOf (by omega)] at h2
      simpa using h2
  have hF : fullN S.ss.length < pw S.ss.length := by have := pw_pos S.ss.length; unfold fullN; omega
  have hlast : can (allN S) (bsub (fullN S.ss.length) (fullN S.ss.length)) = true := by
    rw [can_iff hG]
    refine ⟨nthRef S.es 0, nth_areOz hG.oe 0, fun i hi => ?_⟩
    rw [bsub_test] at hi
    cases h : (fullN S.ss.length).testBit i <;> simp [h] at hi
  obtain ⟨m1, _, m3⟩ := leave_min (allN S) (fullN S.ss.length) (fullN S.ss.length + 1) 0 (bitsOf (fullN S.ss.length))
  change leaveRef (allN S) S.ss.length = _ ∨ _ at m1
  have hpos := pw_pos S.ss.length
  have hFF : fullN S.ss.length + 1 = pw S.ss.length := by unfold fullN; omega
  obtain ⟨b2, hb2, he2, hc2⟩ : ∃ b2, b2 < pw S.ss.length ∧ leaveRef (allN S) S.ss.length = bitsOf b2 ∧ can (allN S) (bsub (fullN S.ss.length) b2) = true := by
    rcases m1 with h | ⟨b', _, h2, h3, h4⟩
    · exact ⟨_, hF, h, hlast⟩
    · exact ⟨b', by omega, h3, h4⟩
  have hmin : ∀ b', b' < pw S.ss.length → can (allN S) (bsub (fullN S.ss.length) b') = true → shorterL (bitsOf b') (leaveRef (allN S) S.ss.length) = false := fun b' h1 h2 => m3 b' (by omega) (by omega) h2
  obtain ⟨pre, a, post, e1, e2, e3, e4⟩ := tried_split S (allSets S.ss.length) [] ⟨bitsOf b2, sets_mem _ hn b2 hb2, by rw [hP b2 hb2]; exact hc2⟩
  rw [hl, e4]
  show a = leaveRef (allN S) S.ss.length
  have ham : a ∈ allSets S.ss.length := by rw [e1]; simp
  obtain ⟨b1, hb1, he1⟩ := sets_bits _ hn a ham
  have hm1 := hmin b1 hb1 (by rw [← hP b1 hb1, ← he1]; exact e2)
  rw [← he1] at hm1
  have h2m := sets_mem _ hn b2 hb2
  rw [e1, List.mem_append, List.mem_cons, ← he2] at h2m
  rcases h2m with h | h | h
  · have := e3 _ h
    rw [he2, hP b2 hb2, hc2] at this; cases this
  · exact h.symm
  · have hp := sets_pair _ hn
    rw [e1] at hp
    have := pairB_split hp _ h
    rw [this] at hm1; cases hm1
end Go.Proofs.Ytlhfeiacigmliaa

/- From the evaluator to the rows: what a row gives, and what it wants. -/
namespace Go.Proofs.Ytlhfeiacigmliaa
open Go Go.ChangeShapes Go.RowKit
set_option maxRecDepth 100000

theorem mapM_each {α β : Type} {f : α → Option β} : ∀ {l : List α} {ys : List β}, l.mapM f = some ys → ∀ a ∈ l, ∃ y, f a = some y
  | [], _, _, a, ha => by simp at ha
  | x :: l, ys, h, a, ha => by
    rw [List.mapM_cons] at h
    cases hx : f x with
    | none => rw [hx] at h; simp at h
    | some y =>
      rw [hx] at h
      cases hl : l.mapM f with
      | none => rw [hl] at h; simp at h
      | some zs =>
        simp only [List.mem_cons] at ha
        rcases ha with rfl | ha
        · exact ⟨y, hx⟩
        · exact mapM_each hl a ha
section
variable {H : Type} {enc : TypeId × Value → H} {P : Program} {w : World}
abbrev trd (enc : TypeId × Value → H) (P : Program) (w : World) (fuel : Nat) (t : TypeId) (cs : List Value) : Option (DataW H × List MemPlace) := DataW.trod enc P w 0 (fun _ => true) true fuel t cs
theorem trd_struct {t : TypeId} {fs : Array Field} (hu : P.underlying t = some (.struct fs)) {fuel : Nat} {cs : List Value} {x : DataW H × List MemPlace} (h : trd enc P w fuel t cs = some x) :
    cs.length = P.cellsOf t ∧ ∃ fuel', ∀ f ∈ fs.toList, ∃ y, trd enc P w fuel' f.type ((cs.drop f.offset).take (P.cellsOf f.type)) = some y := by
  cases fuel with
  | zero => simp [trd, DataW.trod] at h
  | succ fuel =>
    simp only [trd, DataW.trod, hu] at h
    split at h
    · rename_i hl
      refine ⟨hl, fuel, fun f hf => ?_⟩
      rw [Option.map_eq_some_iff] at h
      obtain ⟨ys, h1, _⟩ := h
      exact mapM_each h1 f hf
    · cases h
theorem trd_slice {t e : TypeId} (hu : P.underlying t = some (.slice e)) {fuel : Nat} {cs : List Value} {x : DataW H × List MemPlace} (h : trd enc P w fuel t cs = some x) :
    cs = [.slice none 0 0] ∨ ∃ a len cap, cs = [.slice (some a) len cap] ∧ len ≤ cap ∧ ∃ fuel', ∀ i, i < len → ∃ row y, w.cells? 0 (a.add (i * P.cellsOf e)) (P.cellsOf e) = some row ∧ trd enc P w fuel' e row = some y := by
  cases fuel with
  | zero => simp [trd, DataW.trod] at h
  | succ fuel =>
    unfold trd DataW.trod at h
    rw [hu] at h
    rcases cs with _ | ⟨v, _ | ⟨v2, r⟩⟩
    · cases h
    · cases v with
      | slice o len cap =>
        cases o with
        | none =>
          left
          cases len with
          | zero =>
            cases cap with
            | zero => rfl
            | succ n => cases h
          | succ n => cases h
        | some a =>
          right
          simp only at h
          split at h
          · rename_i hc
            refine ⟨a, len, cap, rfl, hc.2.1, fuel, fun i hi => ?_⟩
            cases he : (List.range len).mapM fun i => (w.cells? 0 (a.add (i * P.cellsOf e)) (P.cellsOf e)).bind (DataW.trod enc P w 0 (fun _ => true) true fuel e) with
            | none => rw [he] at h; cases h
            | some ys =>
              obtain ⟨y, hy⟩ := mapM_each he i (by simpa using hi)
              rw [Option.bind_eq_some_iff] at hy
              obtain ⟨row, h1, h2⟩ := hy
              exact ⟨row, y, h1, h2⟩
          · cases h
      | _ => cases h
    · cases v with
      | slice o len cap =>
        cases o with
        | none =>
          cases len with
          | zero => cases cap <;> cases h
          | succ n => cases h
        | some a => cases h
      | _ => cases h
def Flat (enc : TypeId × Value → H) (P : Program) (w : World) (t : TypeId) (k : Nat) : Prop := ∀ fuel cs x, trd enc P w fuel t cs = some x → cs.length = k ∧ ∀ v ∈ cs, ∃ n : Int, v = .int .i64 n
theorem flat_int {t : TypeId} (hu : P.underlying t = some (.int .i64)) : Flat enc P w t 1 := by
  intro fuel cs x h
  cases fuel with
  | zero => simp [trd, DataW.trod] at h
  | succ fuel =>
    unfold trd DataW.trod at h
    rw [hu] at h
    rcases cs with _ | ⟨v, _ | ⟨v2, r⟩⟩
    · cases h
    · cases v with
      | int k n =>
        simp only at h
        split at h
        · rename_i hc
          obtain ⟨rfl, _⟩ := hc
          exact ⟨rfl, fun v hv => ⟨n, by simpa using hv⟩⟩
        · cases h
      | _ => cases h
    · cases v <;> cases h
/-- A structure of two or three fields that lie one behind the other. -/
theorem flat_two {t t0 t1 : TypeId} {k0 k1 : Nat} {fs : Array Field} (hu : P.underlying t = some (.struct fs)) {f0 f1 : Field} (hf : fs.toList = [f0, f1]) (h0 : f0.type = t0 ∧ f0.offset = 0 ∧ P.cellsOf t0 = k0) (h1 : f1.type = t1 ∧ f1.offset = k0 ∧ P.cellsOf t1 = k1)
    (hc : P.cellsOf t = k0 + k1) (F0 : Flat enc P w t0 k0) (F1 : Flat enc P w t1 k1) : Flat enc P w t (k0 + k1) := by
  intro fuel cs x h
  obtain ⟨hl, fuel', he⟩ := trd_struct hu h
  rw [hc] at hl
  rw [hf] at he
  obtain ⟨rfl, o0, c0⟩ := h0
  obtain ⟨rfl, o1, c1⟩ := h1
  obtain ⟨y0, g0⟩ := he f0 (by simp)
  obtain ⟨y1, g1⟩ := he f1 (by simp)
  rw [o0, c0, List.drop_zero] at g0
  rw [o1, c1, List.take_of_length_le (by simp; omega)] at g1
  obtain ⟨_, a0⟩ := F0 _ _ _ g0
  obtain ⟨_, a1⟩ := F1 _ _ _ g1
  refine ⟨hl, fun v hv => ?_⟩
  rw [← List.take_append_drop k0 cs, List.mem_append] at hv
  rcases hv with hv | hv
  · exact a0 v hv
  · exact a1 v hv
theorem flat_three {t t0 t1 t2 : TypeId} {k0 k1 k2 : Nat} {fs : Array Field} (hu : P.underlying t = some (.struct fs)) {f0 f1 f2 : Field} (hf : fs.toList = [f0, f1, f2]) (h0 : f0.type = t0 ∧ f0.offset = 0 ∧ P.cellsOf t0 = k0) (h1 : f1.type = t1 ∧ f1.offset = k0 ∧ P.cellsOf t1 = k1)
    (h2 : f2.type = t2 ∧ f2.offset = k0 + k1 ∧ P.cellsOf t2 = k2) (hc : P.cellsOf t = k0 + k1 + k2) (F0 : Flat enc P w t0 k0) (F1 : Flat enc P w t1 k1) (F2 : Flat enc P w t2 k2) : Flat enc P w t (k0 + k1 + k2) := by
  intro fuel cs x h
  obtain ⟨hl, fuel', he⟩ := trd_struct hu h
  rw [hc] at hl
  rw [hf] at he
  obtain ⟨rfl, o0, c0⟩ := h0
  obtain ⟨rfl, o1, c1⟩ := h1
  obtain ⟨rfl, o2, c2⟩ := h2
  obtain ⟨y0, g0⟩ := he f0 (by simp)
  obtain ⟨y1, g1⟩ := he f1 (by simp)
  obtain ⟨y2, g2⟩ := he f2 (by simp)
  rw [o0, c0, List.drop_zero] at g0
  rw [o1, c1] at g1
  rw [o2, c2, List.take_of_length_le (by simp; omega)] at g2
  obtain ⟨_, a0⟩ := F0 _ _ _ g0
  obtain ⟨_, a1⟩ := F1 _ _ _ g1
  obtain ⟨_, a2⟩ := F2 _ _ _ g2
  refine ⟨hl, fun v hv => ?_⟩
  rw [← List.take_append_drop k0 cs, List.mem_append] at hv
  rcases hv with hv | hv
  · exact a0 v hv
  · rw [← List.take_append_drop k1 (cs.drop k0), List.mem_append, List.drop_drop] at hv
    rcases hv with hv | hv
    · exact a1 v hv
    · exact a2 v hv
/-- The cells of a slice of such things. -/
theorem slice_vals {t e : TypeId} {k : Nat} (hu : P.underlying t = some (.slice e)) (hk : P.cellsOf e = k) (F : Flat enc P w e k) {fuel : Nat} {v : Value} {x : DataW H × List MemPlace} (h : trd enc P w fuel t [v] = some x)
    (hs : ∀ a len cap, v = .slice (some a) len cap → a.spot = none) : ∃ (len : Nat) (vals : Nat → Int), VRel (rho0 w) (.vsl ((List.range (len * k)).map fun j => i64 (vals j)) len .no) v := by
  rcases trd_slice hu h with h | ⟨a, len, cap, h, hlc, fuel', he⟩
  · simp only [List.cons.injEq, and_true] at h
    subst h
    refine ⟨0, fun _ => 0, ?_⟩
    rw [Nat.zero_mul]
    exact Or.inl ⟨rfl, rfl, fun p hp => (by cases hp), rfl⟩
  · simp only [List.cons.injEq, and_true] at h
    have hsp := hs a len cap h
    subst h
    obtain ⟨R, off, sp⟩ := a
    simp only at hsp
    subst hsp
    have hcell : ∀ j, ∃ n : Int, j < len * k → w.cell? ⟨R, off + j, none⟩ = some (.int .i64 n) := by
      intro j
      by_cases hj : j < len * k
      · have hk0 : 0 < k := by
          rcases Nat.eq_zero_or_pos k with h | h
          · subst h; simp at hj
          · exact h
        obtain ⟨row, y, g1, g2⟩ := he (j / k) (Nat.div_lt_of_lt_mul (by rw [Nat.mul_comm]; exact hj))
        rw [hk] at g1
        obtain ⟨_, hrl, hrc⟩ := World.cells?_some g1
        obtain ⟨_, ha⟩ := F _ _ _ g2
        have hm : j % k < k := Nat.mod_lt _ hk0
        have hrow : row[j % k]? = some (row[j % k]'(by omega)) := List.getElem?_eq_getElem _
        obtain ⟨n, hn⟩ := ha _ (List.getElem_mem (l := row) (n := j % k) (by omega))
        refine ⟨n, fun _ => ?_⟩
        have := hrc (j % k) hm
        rw [hrow, hn] at this
        rw [← this]
        congr 1
        have hdm := Nat.div_add_mod' j k
        generalize j / k * k = u at hdm
        generalize j % k = z at hdm
        simp only [Addr.add]
        split <;> split <;> simp <;> omega
      · exact ⟨0, fun h => absurd h hj⟩
    refine ⟨len, fun j => (hcell j).choose, Or.inr ⟨R, off, cap, rfl, hlc, IRel.of_get fun i a ha => ?_, trivial⟩⟩
    have hi : i < len * k := by
      rcases Nat.lt_or_ge i (len * k) with h | h
      · exact h
      · rw [List.getElem?_eq_none (by simpa using h)] at ha; cases ha
    rw [List.getElem?_map, List.getElem?_range hi] at ha
    simp only [Option.map_some, Option.some.injEq] at ha
    subst ha
    exact ⟨_, (hcell i).choose_spec hi, rfl, rfl⟩
theorem cells_range {α : Type} {f : α → List AVal} {k : Nat} {mk : Nat → α} {vals : Nat → Int} (hf : ∀ i, f (mk i) = (List.range k).map fun j => i64 (vals (i * k + j))) (n : Nat) : cellsOf f ((List.range n).map mk) = (List.range (n * k)).map fun j => i64 (vals j) := by
  induction n with
  | zero => simp [cells_nil]
  | succ n ih =>
    rw [List.range_succ, List.map_append, cells_append, ih, Nat.add_mul, Nat.one_mul, List.range_add, List.map_append]
    congr 1
    simp only [List.map_cons, List.map_nil, cells_cons, cells_nil, List.append_nil, hf, List.map_map]
    rfl
end

section
variable {H : Type} {enc : TypeId × Value → H} {w : World}
theorem c3 : Try.prog.cellsOf 3 = 1 := by kernel_rfl
theorem c46 : Try.prog.cellsOf 46 = 2 := by kernel_rfl
theorem c85 : Try.prog.cellsOf 85 = 4 := by kernel_rfl
theorem c88 : Try.prog.cellsOf 88 = 3 := by kernel_rfl
theorem c22 : Try.prog.cellsOf 22 = 1 := by kernel_rfl
theorem c23 : Try.prog.cellsOf 23 = 1 := by kernel_rfl
theorem c25 : Try.prog.cellsOf 25 = 3 := by kernel_rfl
theorem F3 : Flat enc Try.prog w 3 1 := flat_int Try.underlying3
theorem F46 : Flat enc Try.prog w 46 2 := flat_two Try.underlying46 rfl ⟨rfl, rfl, c3⟩ ⟨rfl, rfl, c3⟩ c46 F3 F3
theorem F85 : Flat enc Try.prog w 85 4 := flat_three Try.underlying85 rfl ⟨rfl, rfl, c3⟩ ⟨rfl, rfl, c3⟩ ⟨rfl, rfl, c46⟩ c85 F3 F3 F46
theorem F88 : Flat enc Try.prog w 88 3 := flat_two Try.underlying88 rfl ⟨rfl, rfl, c3⟩ ⟨rfl, rfl, c46⟩ c88 F3 F46
theorem spot_of_ok {P : Program} {base : Nat} {t e : TypeId} {v : Value} (hu : P.underlying t = some (.slice e)) (h : Cell.okWide P w .any base t v) : ∀ a len cap, v = .slice (some a) len cap → a.spot = none := by
  rintro a len cap rfl
  unfold Cell.okWide at h
  rw [hu] at h
  unfold Cell.ok at h
  rw [hu] at h
  exact h.2.2.2.1
theorem rel_ents {t : TypeId} (hu : Try.prog.underlying t = some (.slice 85)) {fuel : Nat} {v : Value} {x : DataW H × List MemPlace} (h : trd enc Try.prog w fuel t [v] = some x) (hs : ∀ a len cap, v = .slice (some a) len cap → a.spot = none) : ∃ l : List Ent, VRel (rho0 w) (sl cE l) v := by
  obtain ⟨len, vals, hv⟩ := slice_vals hu c85 F85 h hs
  refine ⟨(List.range len).map fun i => ⟨vals (i * 4 + 0), vals (i * 4 + 1), ⟨vals (i * 4 + 2), vals (i * 4 + 3)⟩⟩, ?_⟩
  have hc := cells_range (f := cE) (k := 4) (mk := fun i => ⟨vals (i * 4 + 0), vals (i * 4 + 1), ⟨vals (i * 4 + 2), vals (i * 4 + 3)⟩⟩) (vals := vals) (fun i => rfl) len
  rw [← hc] at hv
  simpa [sl, lenOf] using hv
theorem rel_says {t : TypeId} (hu : Try.prog.underlying t = some (.slice 88)) {fuel : Nat} {v : Value} {x : DataW H × List MemPlace} (h : trd enc Try.prog w fuel t [v] = some x) (hs : ∀ a len cap, v = .slice (some a) len cap → a.spot = none) : ∃ l : List Say, VRel (rho0 w) (sl cS l) v := by
  obtain ⟨len, vals, hv⟩ := slice_vals hu c88 F88 h hs
  refine ⟨(List.range len).map fun i => ⟨vals (i * 3 + 0), ⟨vals (i * 3 + 1), vals (i * 3 + 2)⟩⟩, ?_⟩
  have hc := cells_range (f := cS) (k := 3) (mk := fun i => ⟨vals (i * 3 + 0), ⟨vals (i * 3 + 1), vals (i * 3 + 2)⟩⟩) (vals := vals) (fun i => rfl) len
  rw [← hc] at hv
  simpa [sl, lenOf] using hv
theorem rel_slate {base : Nat} {v : Value} {d : DataW H} {p : List MemPlace} (hok : Value.okWide Try.prog w .any base 25 v) (h : DataW.Trod enc Try.prog w 0 (fun _ => true) true 25 v d p) : ∃ S : Slate, VRel (rho0 w) (vSl S) v := by
  obtain ⟨fuel, h⟩ := h
  unfold Value.okWide at hok
  rw [Try.underlying25] at hok
  obtain ⟨cs, rfl, hsz, ts, hts, _, hrow⟩ := hok
  rw [c25] at hsz
  have hts' : Try.prog.cellTypes Try.prog.depth 25 = some [3, 22, 23] := by kernel_rfl
  rw [hts'] at hts
  cases hts
  obtain ⟨l⟩ := cs
  simp only [List.size_toArray] at hsz
  match l, hsz with
  | [x0, x1, x2], _ =>
    obtain ⟨_, fuel', he⟩ := trd_struct Try.underlying25 h
    simp only [Value.cells, List.mem_cons, List.not_mem_nil, or_false, forall_eq_or_imp, forall_eq, c3, c22, c23] at he
    obtain ⟨⟨y0, h0⟩, ⟨y1, h1⟩, ⟨y2, h2⟩⟩ := he
    obtain ⟨_, a0⟩ := F3 _ _ _ h0
    obtain ⟨n, hn⟩ := a0 x0 (by simp)
    obtain ⟨u1, e1, o1⟩ := hrow 1 x1 rfl
    obtain ⟨u2, e2, o2⟩ := hrow 2 x2 rfl
    cases e1; cases e2
    obtain ⟨es, r1⟩ := rel_ents Try.underlying22 h1 (spot_of_ok Try.underlying22 o1)
    obtain ⟨ss, r2⟩ := rel_says Try.underlying23 h2 (spot_of_ok Try.underlying23 o2)
    refine ⟨⟨n, es, ss⟩, _, rfl, x0, [x1, x2], rfl, by subst hn; rfl, hn, x1, [x2], rfl, ?_, r1, x2, [], rfl, ?_, r2, rfl⟩
    · rcases r1 with ⟨_, _, _, h⟩ | ⟨_, _, _, h, _⟩ <;> rw [h] <;> rfl
    · rcases r2 with ⟨_, _, _, h⟩ | ⟨_, _, _, h, _⟩ <;> rw [h] <;> rfl

theorem stays_all {P : Program} (hl : laidOutB P = true) {W W' : World} {sp : Nat → Bool} : ∀ {ts : List TypeId} {vs : List Value} {ds : List (DataW H)} {ps : List MemPlace}, (∀ t ∈ ts, P.readableRec t = true ∧ t < P.types.size) →
    DataW.TrodAll enc P W 0 (fun _ => true) true ts vs ds ps → (∀ p ∈ ps, W.sameAt W' p) → (∀ p ∈ ps, sp p.block = true) → DataW.TrodAll enc P W' 0 sp true ts vs ds ps
  | [], vs, ds, ps, _, h, _, _ => by
    cases vs <;> cases ds <;> simp_all [DataW.TrodAll]
  | t :: ts, vs, ds, ps, hr, h, hs, hp => by
    obtain ⟨v, vs', d, ds', p, q, rfl, rfl, rfl, hd, hrest⟩ := trodAll_cons h
    obtain ⟨r1, r2⟩ := hr t (by simp)
    exact ⟨p, q, Go.WideElems.Trod_stays hl r1 r2 hd (fun x hx => hs x (by simp [hx])) (fun x hx => hp x (by simp [hx])), stays_all hl (fun t ht => hr t (by simp [ht])) hrest (fun x hx => hs x (by simp [hx])) (fun x hx => hp x (by simp [hx])), rfl⟩
theorem laid : laidOutB Try.prog = true := by kernel_rfl
theorem shut_true {f : Func} {s : ChangeSpec} {W W' : World} {args : Array Value} {ds : List (DataW H)} {before : List MemPlace} {ρ' : Rho} (hW : DataW.Whole enc Try.prog f.params.toList s.vars false W args.toList ds [] before) (hv : s.vars = [])
    (hr : f.resultTypes.toList = [4]) (hrd : ∀ t ∈ f.params.toList, Try.prog.readableRec t = true ∧ t < Try.prog.types.size) (h1 : (s.fn H (ds ++ [])).results = [.lit (.bool true)]) (h2 : (s.fn H (ds ++ [])).args = ds) (h3 : (s.fn H (ds ++ [])).vars = [])
    (hF : Fwd (rho0 W) W ρ' W') : s.post enc Try.prog f false true false false W args (.bool true) W' := by
  have hb : ∀ R, R < W.heap.size → W'.heap[R]? = W.heap[R]? := fun R hR => hF.kept R hR (by
    rintro (⟨b, hb⟩ | ⟨p, r, hp, _⟩)
    · cases hb
    · cases hp)
  have hlt := hW.lt
  have hW0 := hW
  obtain ⟨p, q, hA, hV, rfl, _, _⟩ := hW0
  rw [hv] at hV
  obtain ⟨_, rfl⟩ := trodVars_none hV
  rw [List.append_nil] at hlt
  have hargs : DataW.TrodAll enc Try.prog W' 0 (fun b => decide (b < W.heap.size)) true f.params.toList args.toList ds p := by
    refine stays_all laid hrd hA (fun x hx => ?_) (fun x hx => by simpa using hlt x hx)
    cases x with
    | cell b o => exact World.cell?_of_block (w := W) (hb b (hlt _ hx))
    | map b => exact hb b (hlt _ hx)
  have hrs : f.resultTypes.size = 1 := by rw [← Array.length_toList, hr]; rfl
  refine ⟨ds, [], _, [], p, [], hW, ?_, ?_, ?_, ⟨hF.os, hF.output, fun i hi => ?_⟩, fun h => by cases h⟩
  · rw [h1, hr, hrs]
    refine trodAll_mk1 ⟨1, ?_⟩
    simp [DataW.trod, Try.underlying4, Value.cells]
  · rw [h2]; exact hargs
  · rw [h3, hv]; rfl
  · rw [hb i hi]; split <;> simp_all
end
end Go.Proofs.Ytlhfeiacigmliaa

/- The wash-house's soap: a slate with some of its sayings, and whether it has a truth. -/
namespace Go.Proofs.Ytlhfeiacigmliaa
open Go
set_option maxRecDepth 100000

theorem asked_ok_iff {S : Slate} (hc : checkSlate S = 0) : askedErr S = 0 ↔ ∃ L, areOz S.es L = true ∧ AllRight S L := by
  rw [err_eq]
  have hG := good_of_check hc
  unfold sureErr
  simp only [hc, ne_eq, not_true_eq_false, if_false]
  constructor
  · intro h
    cases ht : truths S (prodN S.es) with
    | nil => rw [ht] at h; simp at h
    | cons L l => exact ⟨L, (mem_truths hG L).1 (by rw [ht]; simp)⟩
  · rintro ⟨L, hL⟩
    have := (mem_truths hG L).2 hL
    rw [if_neg]
    intro h
    rw [h] at this; simp at this
theorem areOz_lo : ∀ {es : List Ent}, OkE es → areOz es (es.map (·.oz.lo)) = true
  | [], _ => rfl
  | e :: es, h => by
    have he := h e (by simp)
    simp only [List.map_cons, areOz, Bool.and_eq_true, within_iff]
    exact ⟨⟨by omega, he.2.1⟩, areOz_lo fun x hx => h x (by simp [hx])⟩
theorem can_zero {S : Slate} (hG : Good S) : can (allN S) (fullN 0) = true := by
  rw [can_iff hG]
  refine ⟨_, areOz_lo hG.oe, fun i hi => ?_⟩
  rw [fullN_test] at hi
  simp at hi
theorem ready_inv {S : Slate} (h : readyS S = true) : checkSlate S = 0 ∧ thin S = true := by
  unfold readyS at h
  rw [Bool.and_eq_true, decide_eq_true_eq, fault_eq] at h
  exact ⟨h.2, h.1⟩
end Go.Proofs.Ytlhfeiacigmliaa

/- The plain law of the fewest payments' number: the program's and the document's. -/
namespace Go.Proofs.Ytlhfeiacigmliaa
open Go
set_option maxRecDepth 100000

theorem eq6_fun {a b : Nat → Int} (h : eq6 a b = true) : ∀ j, j < 6 → a j = b j := fun j hj => eq6_at h hj
/-- `mostN` looks at the six women alone. -/
theorem sumUp_congr {a b : Nat → Int} (h : ∀ j, j < 6 → a j = b j) (w : Nat) : ∀ (k i : Nat) (n : Int), i + k ≤ 6 → sumUp a w n i k = sumUp b w n i k
  | 0, _, _, _ => rfl
  | k + 1, i, n, hk => by
    rw [sumUp, sumUp, h i (by omega)]
    exact sumUp_congr h w k (i + 1) _ (by omega)
theorem mostF_congr {a b : Nat → Int} (h : ∀ j, j < 6 → a j = b j) : ∀ f w, mostF a f w = mostF b f w
  | 0, _ => rfl
  | f + 1, w => by
    rw [mostF, mostF]
    have : mostF a f = mostF b f := funext (mostF_congr h f)
    unfold sumA
    rw [this, sumUp_congr h w 6 0 0 (by omega)]
theorem openUp_congr {a b : Nat → Int} (h : ∀ j, j < 6 → a j = b j) : ∀ (k i n : Nat), i + k ≤ 6 → openUp a n i k = openUp b n i k
  | 0, _, _, _ => rfl
  | k + 1, i, n, hk => by
    rw [openUp, openUp, h i (by omega)]
    exact openUp_congr h k (i + 1) _ (by omega)
theorem payV_congr {a b : Nat → Int} (h : ∀ j, j < 6 → a j = b j) : payV a = payV b := by
  unfold payV mostN
  have : openN a = openN b := openUp_congr h 6 0 0 (by omega)
  rw [this, mostF_congr h]
end Go.Proofs.Ytlhfeiacigmliaa

/- The plain law of payments: those that the program returns settle all, they are the fewest, and no others that settle all are fewer. -/
namespace Go.Proofs.Ytlhfeiacigmliaa
open Go
set_option maxRecDepth 100000

/-- A payment between two of so many women. -/
def PayW (w : Nat) (x : Pay) : Prop := ∃ f t : Nat, f < w ∧ t < w ∧ f ≠ t ∧ x.fr = Int.ofNat f ∧ x.to = Int.ofNat t ∧ 1 ≤ x.oz ∧ x.oz ≤ 240
theorem pc_sub : ∀ w, w < 64 → ∀ g, g < 64 → band g w = g → pc g + pc (bsub w g) = pc w := by
  have h : ((List.range 64).all fun w => (List.range 64).all fun g => (!decide (band g w = g) || decide (pc g + pc (bsub w g) = pc w))) = true := by kernel_rfl
  intro w hw g hg h2
  rw [List.all_eq_true] at h
  have h4 := h w (by simpa using hw)
  rw [List.all_eq_true] at h4
  have h5 := h4 g (by simpa using hg)
  simpa [h2] using h5
theorem pc_pos : ∀ w, w < 64 → w ≠ 0 → 0 < pc w := by
  have h : ((List.range 64).all fun w => decide (w = 0) || decide (0 < pc w)) = true := by kernel_rfl
  intro w hw h0
  rw [List.all_eq_true] at h
  have h1 := h w (by simpa using hw)
  simpa [h0] using h1
/-- Women who are owed 0 are left out of groups. -/
theorem Part.open {a : Nat → Int} {w n : Nat} (h : Part a w n) : w < 64 → ∃ m, Part a (band w (openN a)) m ∧ n + pc (band w (openN a)) ≤ m + pc w := by
  induction h with
  | nil => intro _; exact ⟨0, by rw [show band 0 (openN a) = 0 from by unfold band; simp]; exact .nil, by rw [show band 0 (openN a) = 0 from by unfold band; simp]; omega⟩
  | @cons w g n h0 hs hz h ih =>
    intro hw
    have hg : g < 64 := Nat.lt_of_le_of_lt hs.le hw
    have hr : bsub w g < 64 := Nat.lt_of_le_of_lt (sb_sub w g).le hw
    obtain ⟨m, h1, h2⟩ := ih hr
    have hbl : ∀ u, u < 64 → band u (openN a) < 64 := fun u hu => Nat.lt_of_le_of_lt Nat.and_le_left hu
    have e1 : bsub (band w (openN a)) (band g (openN a)) = band (bsub w g) (openN a) := by
      apply Nat.eq_of_testBit_eq
      intro i
      simp only [bsub_t, band_t]
      cases w.testBit i <;> cases g.testBit i <;> cases (openN a).testBit i <;> rfl
    have s1 : Sb (band g (openN a)) (band w (openN a)) := by
      intro i hi
      rw [band_t, Bool.and_eq_true] at hi
      rw [band_t, hs i hi.1, hi.2]; rfl
    have c1 := pc_sub w hw g hg (sb_band hs)
    have c2 := pc_sub (band w (openN a)) (hbl w hw) (band g (openN a)) (hbl g hg) (sb_band s1)
    have hgo : pc (band g (openN a)) ≤ pc g := by
      have h3 : Sb (band g (openN a)) g := fun i hi => by rw [band_t, Bool.and_eq_true] at hi; exact hi.1
      have := pc_sub g hg (band g (openN a)) (hbl g hg) (sb_band h3)
      omega
    have hpz : ps a (band g (openN a)) = ps a g := by
      have ht : ∀ i, i < 6 → term a (band g (openN a)) i = term a g i := by
        intro i hi
        unfold term
        rw [band_t, open_t]
        by_cases h : a i = 0
        · simp [h]
        · simp [h, hi]
      unfold ps
      rw [ht 0 (by omega), ht 1 (by omega), ht 2 (by omega), ht 3 (by omega), ht 4 (by omega), ht 5 (by omega)]
    rw [e1] at c2
    by_cases hgz : band g (openN a) = 0
    · refine ⟨m, ?_, ?_⟩
      · have : band w (openN a) = band (bsub w g) (openN a) := by
          rw [← e1, hgz]
          apply Nat.eq_of_testBit_eq
          intro i; rw [bsub_t]; simp
        rw [this]; exact h1
      · have := pc_pos g hg h0
        rw [hgz] at c2
        have : pc 0 = 0 := rfl
        omega
    · exact ⟨m + 1, .cons hgz s1 (by rw [hpz]; exact hz) (by rw [e1]; exact h1), by omega⟩
end Go.Proofs.Ytlhfeiacigmliaa

/- The plain law of groups and payments of a slate that is valid, with ounces. -/
namespace Go.Proofs.Ytlhfeiacigmliaa
open Go
set_option maxRecDepth 100000

end Go.Proofs.Ytlhfeiacigmliaa

/- The wash-house's soap: what the functions compute: equal lists, in the heap too. -/
namespace Go.Proofs.Ytlhfeiacigmliaa
open Go
set_option maxRecDepth 10000

/-- A value that reads as a list of numbers. -/
structure RdI (s : St) (x : AVal) (L : List Int) : Prop where
  nrm : x.norm = x
  len : lenV x s = some (i64 (Int.ofNat (lenOf L)), s)
  get : ∀ (i : Nat) (v : Int), L[i]? = some v → ∃ r, idxV 1 x (i64 (Int.ofNat i)) s = some (r, s) ∧ look1 s r = some (i64 v)
end Go.Proofs.Ytlhfeiacigmliaa

/- The wash-house's soap: what the functions compute: payments of the other package, ranges in ranges, slates that are closer. -/
namespace Go.Proofs.Ytlhfeiacigmliaa
open Go
set_option maxRecDepth 10000

theorem l93 (A B : List Rng) (hl : A.length < 1000000) (hL : A.length = B.length) (hI : ∀ (i : Nat) (x y : Rng), A[i]? = some x → B[i]? = some y → y.lo ≤ x.lo ∧ x.hi ≤ y.hi) (s : St) : ∀ (k i : Nat), i + k = A.length →
   lim tbl (.loop a93_l0 41 ⟨[0, 1, 5], [], [4]⟩ [sl cR A, sl cR B, i64 (Int.ofNat i)]) s = some (.exit 0, [], s) := by
  intro k
  induction k with
  | zero =>
    intro i hi
    rw [lim_loop]
    obtain ⟨N, O, p, q⟩ := s
    (try simp only [go_sem, ↓reduceIte, Nat.reduceAdd, Nat.reduceEqDiff, Nat.reduceLT, Nat.reduceLeDiff, Nat.reduceBEq, Int.reduceEq, Int.reduceLT, Int.reduceLE]); (repeat ((first | (rw [lt_yes]; rotate_left; (first | omega | (simp [lenOf, app]; omega) | (simp only [lenOf]; omega))) | (rw [lt_no]; rotate_left; (first | omega | (simp [lenOf, app]; omega) | (simp only [lenOf]; omega))) | (rw [idxA_at]; rotate_left; (first | omega | (simp [lenOf, app]; omega) | (simp only [lenOf]; omega))) | (rw [wr_up]; rotate_left; (first | omega | (simp [lenOf, app]; omega) | (simp only [lenOf]; omega))) | ((first | rw [drop_cI] | rw [drop_cE] | rw [drop_cS] | rw [drop_cP] | rw [drop_cR]); rotate_left; assumption)); try simp only [go_sem, ↓reduceIte, Nat.reduceAdd, Nat.reduceEqDiff, Nat.reduceLT, Nat.reduceLeDiff, Nat.reduceBEq, Int.reduceEq, Int.reduceLT, Int.reduceLE]))
  | succ k ih =>
    intro i hi
    have hlt : i < A.length := by omega
    have hlt' : i < B.length := by omega
    obtain ⟨x, hx, _⟩ := getElem_drop hlt
    obtain ⟨y, hy, _⟩ := getElem_drop hlt'
    obtain ⟨h1, h2⟩ := hI i x y hx hy
    obtain ⟨xl, xh⟩ := x
    obtain ⟨yl, yh⟩ := y
    simp only at h1 h2
    have n1 : ¬ xl < yl := by omega
    have n2 : ¬ yh < xh := by omega
    have d1 := drop_cR hx
    have d2 := drop_cR hy
    have hAB : lenOf A = lenOf B := hL
    have h' := ih (i + 1) (by omega)
    rw [lim_loop]
    generalize hR : some (_, _, _) = R at h' ⊢
    obtain ⟨N, O, p, q⟩ := s
    (try simp only [go_sem, ↓reduceIte, Nat.reduceAdd, Nat.reduceEqDiff, Nat.reduceLT, Nat.reduceLeDiff, Nat.reduceBEq, Int.reduceEq, Int.reduceLT, Int.reduceLE]); (repeat ((first | rw [d1] | rw [d2] | rw [lt_n n1] | rw [lt_n n2] | (rw [lt_yes]; rotate_left; (first | omega | (simp [lenOf, app]; omega) | (simp only [lenOf]; omega))) | (rw [lt_no]; rotate_left; (first | omega | (simp [lenOf, app]; omega) | (simp only [lenOf]; omega))) | (rw [idxA_at]; rotate_left; (first | omega | (simp [lenOf, app]; omega) | (simp only [lenOf]; omega))) | (rw [wr_up]; rotate_left; (first | omega | (simp [lenOf, app]; omega) | (simp only [lenOf]; omega))) | ((first | rw [drop_cI] | rw [drop_cE] | rw [drop_cS] | rw [drop_cP] | rw [drop_cR]); rotate_left; assumption)); try simp only [go_sem, ↓reduceIte, Nat.reduceAdd, Nat.reduceEqDiff, Nat.reduceLT, Nat.reduceLeDiff, Nat.reduceBEq, Int.reduceEq, Int.reduceLT, Int.reduceLE]))
    exact h'
theorem k93 (A B : List Rng) (hl : A.length < 1000000) (hL : A.length = B.length) (hI : ∀ (i : Nat) (x y : Rng), A[i]? = some x → B[i]? = some y → y.lo ≤ x.lo ∧ x.hi ≤ y.hi) (s : St) : lim tbl (.call 93 [sl cR A, sl cR B]) s = some (.ret, [.bool true], s) := by
  have h0 := fun s => l93 A B hl hL hI s A.length 0 (by omega)
  rw [ofNat_0] at h0
  have hAB : lenOf A = lenOf B := hL
  rw [lim_call tbl_93]
  obtain ⟨N, O, p, q⟩ := s
  (try simp only [go_sem, ↓reduceIte, Nat.reduceAdd, Nat.reduceEqDiff, Nat.reduceLT, Nat.reduceLeDiff, Nat.reduceBEq, Int.reduceEq, Int.reduceLT, Int.reduceLE]); (repeat ((first | rw [eqN_y hAB] | simp only [h0] | (rw [lt_yes]; rotate_left; (first | omega | (simp [lenOf, app]; omega) | (simp only [lenOf]; omega))) | (rw [lt_no]; rotate_left; (first | omega | (simp [lenOf, app]; omega) | (simp only [lenOf]; omega))) | (rw [idxA_at]; rotate_left; (first | omega | (simp [lenOf, app]; omega) | (simp only [lenOf]; omega))) | (rw [wr_up]; rotate_left; (first | omega | (simp [lenOf, app]; omega) | (simp only [lenOf]; omega))) | ((first | rw [drop_cI] | rw [drop_cE] | rw [drop_cS] | rw [drop_cP] | rw [drop_cR]); rotate_left; assumption)); try simp only [go_sem, ↓reduceIte, Nat.reduceAdd, Nat.reduceEqDiff, Nat.reduceLT, Nat.reduceLeDiff, Nat.reduceBEq, Int.reduceEq, Int.reduceLT, Int.reduceLE]))
theorem l94 (A B : List Int) (hl : A.length < 1000000) (hL : A.length = B.length) (hI : ∀ (i : Nat) (x y : Int), A[i]? = some x → B[i]? = some y → x = 3 ∨ x = y) (s : St) : ∀ (k i : Nat), i + k = A.length →
   lim tbl (.loop a94_l0 33 ⟨[0, 1, 5], [], [4]⟩ [sl cI A, sl cI B, i64 (Int.ofNat i)]) s = some (.exit 0, [], s) := by
  intro k
  induction k with
  | zero =>
    intro i hi
    rw [lim_loop]
    obtain ⟨N, O, p, q⟩ := s
    (try simp only [go_sem, ↓reduceIte, Nat.reduceAdd, Nat.reduceEqDiff, Nat.reduceLT, Nat.reduceLeDiff, Nat.reduceBEq, Int.reduceEq, Int.reduceLT, Int.reduceLE]); (repeat ((first | (rw [lt_yes]; rotate_left; (first | omega | (simp [lenOf, app]; omega) | (simp only [lenOf]; omega))) | (rw [lt_no]; rotate_left; (first | omega | (simp [lenOf, app]; omega) | (simp only [lenOf]; omega))) | (rw [idxA_at]; rotate_left; (first | omega | (simp [lenOf, app]; omega) | (simp only [lenOf]; omega))) | (rw [wr_up]; rotate_left; (first | omega | (simp [lenOf, app]; omega) | (simp only [lenOf]; omega))) | ((first | rw [drop_cI] | rw [drop_cE] | rw [drop_cS] | rw [drop_cP] | rw [drop_cR]); rotate_left; assumption)); try simp only [go_sem, ↓reduceIte, Nat.reduceAdd, Nat.reduceEqDiff, Nat.reduceLT, Nat.reduceLeDiff, Nat.reduceBEq, Int.reduceEq, Int.reduceLT, Int.reduceLE]))
  | succ k ih =>
    intro i hi
    have hlt : i < A.length := by omega
    have hlt' : i < B.length := by omega
    obtain ⟨x, hx, _⟩ := getElem_drop hlt
    obtain ⟨y, hy, _⟩ := getElem_drop hlt'
    have h1 := hI i x y hx hy
    have d1 := drop_cI hx
    have d2 := drop_cI hy
    have h' := ih (i + 1) (by omega)
    rw [lim_loop]
    generalize hR : some (_, _, _) = R at h' ⊢
    obtain ⟨N, O, p, q⟩ := s
    by_cases h3 : x = 3
    · (try simp only [go_sem, ↓reduceIte, Nat.reduceAdd, Nat.reduceEqDiff, Nat.reduceLT, Nat.reduceLeDiff, Nat.reduceBEq, Int.reduceEq, Int.reduceLT, Int.reduceLE]); (repeat ((first | rw [d1] | rw [d2] | rw [eq_y h3] | (rw [lt_yes]; rotate_left; (first | omega | (simp [lenOf, app]; omega) | (simp only [lenOf]; omega))) | (rw [lt_no]; rotate_left; (first | omega | (simp [lenOf, app]; omega) | (simp only [lenOf]; omega))) | (rw [idxA_at]; rotate_left; (first | omega | (simp [lenOf, app]; omega) | (simp only [lenOf]; omega))) | (rw [wr_up]; rotate_left; (first | omega | (simp [lenOf, app]; omega) | (simp only [lenOf]; omega))) | ((first | rw [drop_cI] | rw [drop_cE] | rw [drop_cS] | rw [drop_cP] | rw [drop_cR]); rotate_left; assumption)); try simp only [go_sem, ↓reduceIte, Nat.reduceAdd, Nat.reduceEqDiff, Nat.reduceLT, Nat.reduceLeDiff, Nat.reduceBEq, Int.reduceEq, Int.reduceLT, Int.reduceLE]))
      exact h'
    · have hxy : x = y := by
        rcases h1 with h | h
        · exact absurd h h3
        · exact h
      (try simp only [go_sem, ↓reduceIte, Nat.reduceAdd, Nat.reduceEqDiff, Nat.reduceLT, Nat.reduceLeDiff, Nat.reduceBEq, Int.reduceEq, Int.reduceLT, Int.reduceLE]); (repeat ((first | rw [d1] | rw [d2] | rw [eq_n h3] | rw [eq_y hxy] | (rw [lt_yes]; rotate_left; (first | omega | (simp [lenOf, app]; omega) | (simp only [lenOf]; omega))) | (rw [lt_no]; rotate_left; (first | omega | (simp [lenOf, app]; omega) | (simp only [lenOf]; omega))) | (rw [idxA_at]; rotate_left; (first | omega | (simp [lenOf, app]; omega) | (simp only [lenOf]; omega))) | (rw [wr_up]; rotate_left; (first | omega | (simp [lenOf, app]; omega) | (simp only [lenOf]; omega))) | ((first | rw [drop_cI] | rw [drop_cE] | rw [drop_cS] | rw [drop_cP] | rw [drop_cR]); rotate_left; assumption)); try simp only [go_sem, ↓reduceIte, Nat.reduceAdd, Nat.reduceEqDiff, Nat.reduceLT, Nat.reduceLeDiff, Nat.reduceBEq, Int.reduceEq, Int.reduceLT, Int.reduceLE]))
      exact h'
theorem k94 (A B : List Int) (hl : A.length < 1000000) (hL : A.length = B.length) (hI : ∀ (i : Nat) (x y : Int), A[i]? = some x → B[i]? = some y → x = 3 ∨ x = y) (s : St) : lim tbl (.call 94 [sl cI A, sl cI B]) s = some (.ret, [.bool true], s) := by
  have h0 := fun s => l94 A B hl hL hI s A.length 0 (by omega)
  rw [ofNat_0] at h0
  have hAB : lenOf A = lenOf B := hL
  rw [lim_call tbl_94]
  obtain ⟨N, O, p, q⟩ := s
  (try simp only [go_sem, ↓reduceIte, Nat.reduceAdd, Nat.reduceEqDiff, Nat.reduceLT, Nat.reduceLeDiff, Nat.reduceBEq, Int.reduceEq, Int.reduceLT, Int.reduceLE]); (repeat ((first | rw [eqN_y hAB] | simp only [h0] | (rw [lt_yes]; rotate_left; (first | omega | (simp [lenOf, app]; omega) | (simp only [lenOf]; omega))) | (rw [lt_no]; rotate_left; (first | omega | (simp [lenOf, app]; omega) | (simp only [lenOf]; omega))) | (rw [idxA_at]; rotate_left; (first | omega | (simp [lenOf, app]; omega) | (simp only [lenOf]; omega))) | (rw [wr_up]; rotate_left; (first | omega | (simp [lenOf, app]; omega) | (simp only [lenOf]; omega))) | ((first | rw [drop_cI] | rw [drop_cE] | rw [drop_cS] | rw [drop_cP] | rw [drop_cR]); rotate_left; assumption)); try simp only [go_sem, ↓reduceIte, Nat.reduceAdd, Nat.reduceEqDiff, Nat.reduceLT, Nat.reduceLeDiff, Nat.reduceBEq, Int.reduceEq, Int.reduceLT, Int.reduceLE]))
/-- The first slate's answers are as close as the second one's. -/
structure CloserOk (X S : Slate) : Prop where
  ex : askedErr X = 0
  es : askedErr S = 0
  xl : X.es.length < 1000000 ∧ X.ss.length < 1000000
  sl : S.es.length < 1000000 ∧ S.ss.length < 1000000
  bl : (boundsL X).length < 1000000 ∧ (boundsL X).length = (boundsL S).length
  bo : ∀ (i : Nat) (x y : Rng), (boundsL X)[i]? = some x → (boundsL S)[i]? = some y → y.lo ≤ x.lo ∧ x.hi ≤ y.hi
  ow : ∀ (i : Nat) (x y : Int), ((boundsL S).map owesF)[i]? = some x → ((boundsL X).map owesF)[i]? = some y → x = 3 ∨ x = y
  fw : (fewestP S).1 ≤ (fewestP X).1 ∧ (fewestP X).2 ≤ (fewestP S).2
theorem k57 (X S : Slate) (h : CloserOk X S) (s : St) : lim tbl (.call 57 [vSl X, vSl S]) s = some (.ret, [.bool true], s) := by
  obtain ⟨ex, es, xl, sl', bl, bo, ow, fw⟩ := h
  have a24 := fun s => k24 X xl.1 xl.2 s
  have b24 := fun s => k24 S sl'.1 sl'.2 s
  have a23 := fun s => k23 X s
  have b23 := fun s => k23 S s
  have a25 := fun s => k25 X s
  have b25 := fun s => k25 S s
  have a38 := fun s => k38 X s
  have b38 := fun s => k38 S s
  have h93 := fun s => k93 _ _ bl.1 bl.2 bo s
  have h94 := fun s => k94 _ _ (by rw [List.length_map, ← bl.2]; exact bl.1) (by rw [List.length_map, List.length_map]; exact bl.2.symm) ow s
  rw [ex] at a23 a25 a38
  rw [es] at b23 b25 b38
  obtain ⟨f1, f2⟩ := fw
  generalize (boundsL X).map owesF = V at a25 h94
  generalize (boundsL S).map owesF = U at b25 h94
  generalize boundsL X = A at a23 h93
  generalize boundsL S = B at b23 h93
  generalize fewestP X = F at a38 f1 f2
  generalize fewestP S = G at b38 f1 f2
  obtain ⟨c1, c2⟩ := F
  obtain ⟨d1, d2⟩ := G
  simp only at f1 f2
  rw [lim_call tbl_57]
  obtain ⟨N, O, p, q⟩ := s
  obtain ⟨w, es1, ss1⟩ := X
  obtain ⟨w', es2, ss2⟩ := S
  (try simp only [go_sem, ↓reduceIte, Nat.reduceAdd, Nat.reduceEqDiff, Nat.reduceLT, Nat.reduceLeDiff, Nat.reduceBEq, Int.reduceEq, Int.reduceLT, Int.reduceLE]); (repeat ((first | simp only [a24] | simp only [b24] | simp only [a23] | simp only [b23] | simp only [a25] | simp only [b25] | simp only [a38] | simp only [b38] | simp only [h93] | simp only [h94] | rw [le_y f1] | rw [le_y f2] | (rw [lt_yes]; rotate_left; (first | omega | (simp [lenOf, app]; omega) | (simp only [lenOf]; omega))) | (rw [lt_no]; rotate_left; (first | omega | (simp [lenOf, app]; omega) | (simp only [lenOf]; omega))) | (rw [idxA_at]; rotate_left; (first | omega | (simp [lenOf, app]; omega) | (simp only [lenOf]; omega))) | (rw [wr_up]; rotate_left; (first | omega | (simp [lenOf, app]; omega) | (simp only [lenOf]; omega))) | ((first | rw [drop_cI] | rw [drop_cE] | rw [drop_cS] | rw [drop_cP] | rw [drop_cR]); rotate_left; assumption)); try simp only [go_sem, ↓reduceIte, Nat.reduceAdd, Nat.reduceEqDiff, Nat.reduceLT, Nat.reduceLeDiff, Nat.reduceBEq, Int.reduceEq, Int.reduceLT, Int.reduceLE]))
end Go.Proofs.Ytlhfeiacigmliaa

/- The wash-house's soap: what the functions compute: whether payments settle all, by both packages. -/
namespace Go.Proofs.Ytlhfeiacigmliaa
open Go
set_option maxRecDepth 10000

end Go.Proofs.Ytlhfeiacigmliaa

/- The plain law of payments that settle: by the program as by the document. -/
namespace Go.Proofs.Ytlhfeiacigmliaa
open Go
set_option maxRecDepth 100000

section
variable {S : Slate} {L : List Int} (hc : checkSlate S = 0) (ha : areOz S.es L = true) {P : List Pay} (hP : P.length ≤ 1000) (hW : ∀ x ∈ P, PayW S.women.toNat x)
include hc ha hP hW
end
end Go.Proofs.Ytlhfeiacigmliaa

/- The plain law of slates that are closer, and of smallest sets beside each other. -/
namespace Go.Proofs.Ytlhfeiacigmliaa
open Go
set_option maxRecDepth 100000

theorem pw_mono {i j : Nat} (h : i ≤ j) : pw i ≤ pw j := Nat.pow_le_pow_right (n := 2) (by omega) h
theorem leave_law {S : Slate} (hc : checkSlate S = 0) : ∃ b, b < pw S.ss.length ∧ leaveL S = bitsOf b ∧ can (allN S) (bsub (fullN (lenOf S.ss)) b) = true ∧
    ∀ m, m < pw S.ss.length → can (allN S) (bsub (fullN (lenOf S.ss)) m) = true → (leaveL S).length ≤ (bitsOf m).length := by
  have hG := good_of_check hc
  have hp := pw_pos S.ss.length
  have hF : fullN (lenOf S.ss) + 1 = pw S.ss.length := by unfold fullN lenOf; omega
  rw [leave_eq hc]
  unfold leaveRef
  obtain ⟨m1, _, m3⟩ := leave_min (allN S) (fullN (lenOf S.ss)) (fullN (lenOf S.ss) + 1) 0 (bitsOf (fullN (lenOf S.ss)))
  rw [hF] at m1 m3 ⊢
  have hmin : ∀ m, m < pw S.ss.length → can (allN S) (bsub (fullN (lenOf S.ss)) m) = true → (leaveUp (allN S) (fullN (lenOf S.ss)) (pw S.ss.length) 0 (bitsOf (fullN (lenOf S.ss)))).length ≤ (bitsOf m).length := by
    intro m hm hcan
    have h := m3 m (by omega) (by omega) hcan
    rcases Nat.lt_or_ge (bitsOf m).length (leaveUp (allN S) (fullN (lenOf S.ss)) (pw S.ss.length) 0 (bitsOf (fullN (lenOf S.ss)))).length with h1 | h1
    · rw [shorterL_iff.2 (Or.inl h1)] at h; cases h
    · exact h1
  rcases m1 with h | ⟨b', _, h2, h3, h4⟩
  · refine ⟨fullN (lenOf S.ss), by omega, h, ?_, hmin⟩
    have : bsub (fullN (lenOf S.ss)) (fullN (lenOf S.ss)) = fullN 0 := by
      apply Nat.eq_of_testBit_eq
      intro i
      rw [bsub_test, fullN_test, fullN_test]
      simp
    rw [this]; exact can_zero hG
  · exact ⟨b', by omega, h3, h4, hmin⟩
/-- Some sayings can all be right but those of a set. -/
theorem can_but {S : Slate} (hG : Good S) (b : Nat) : can (allN S) (bsub (fullN (lenOf S.ss)) b) = true ↔ ∃ L, areOz S.es L = true ∧ ∀ (i : Nat) (x : Say), S.ss[i]? = some x → b.testBit i = false → rightOk S.es L x = true := by
  rw [can_iff hG]
  constructor
  · rintro ⟨L, h1, h2⟩
    refine ⟨L, h1, fun i x hx hb => ?_⟩
    have hl : i < S.ss.length := (List.getElem?_eq_some_iff.1 hx).1
    have := h2 i (by rw [bsub_test, fullN_test, hb]; simp [lenOf, hl])
    rwa [rightN_test, hx] at this
  · rintro ⟨L, h1, h2⟩
    refine ⟨L, h1, fun i hi => ?_⟩
    rw [bsub_test, fullN_test, Bool.and_eq_true, decide_eq_true_eq] at hi
    obtain ⟨hl, hb⟩ := hi
    have hl : i < S.ss.length := hl
    rw [rightN_test, List.getElem?_eq_getElem hl]
    exact h2 i _ (List.getElem?_eq_getElem hl) (by simpa using hb)
theorem pc_zero {b : Nat} (h : b < 64) (h0 : (bitsOf b).length = 0) : b = 0 := by
  by_cases hb : b = 0
  · exact hb
  · have := pc_pos b h hb
    unfold pc at this; omega
/-- If each truth of the first slate is one of the second, its answers are as close. -/
theorem closer_of {X S : Slate} (hX : checkSlate X = 0) (hS : checkSlate S = 0) (hw : X.women = S.women) (h0 : askedErr X = 0)
    (hT : ∀ L, areOz X.es L = true → AllRight X L → areOz S.es L = true ∧ AllRight S L ∧ owV X.es L = owV S.es L) : CloserOk X S := by
  have gX := good_of_check hX
  have gS := good_of_check hS
  have hxn : asked X ≠ [] := by
    intro h
    simp [askedErr, hX, h] at h0
  have h1 : askedErr S = 0 := by
    obtain ⟨L, l1, l2⟩ := (asked_ok_iff hX).1 h0
    obtain ⟨l3, l4, _⟩ := hT L l1 l2
    exact (asked_ok_iff hS).2 ⟨L, l3, l4⟩
  have hsn : asked S ≠ [] := by
    intro h
    simp [askedErr, hS, h] at h1
  have go : ∀ a ∈ asked X, ∃ a' ∈ asked S, ∀ j, j < 6 → a' j = a j := by
    intro a ha
    obtain ⟨L, hL, rfl⟩ := asked_truth gX ha
    obtain ⟨l1, l2⟩ := (mem_truths gX L).1 hL
    obtain ⟨l3, l4, l5⟩ := hT L l1 l2
    obtain ⟨a', ha', he⟩ := truth_asked gS ((mem_truths gS L).2 ⟨l3, l4⟩)
    exact ⟨a', ha', fun j hj => by rw [l5]; exact eq6_fun he j hj⟩
  have key : ∀ val : (Nat → Int) → Int, (∀ a b : Nat → Int, (∀ j, j < 6 → a j = b j) → val a = val b) →
      (pBounds val (asked S)).1 ≤ (pBounds val (asked X)).1 ∧ (pBounds val (asked X)).2 ≤ (pBounds val (asked S)).2 ∧ (pBounds val (asked X)).1 ≤ (pBounds val (asked X)).2 := by
    intro val hval
    obtain ⟨s1, _, _⟩ := pBounds_spec val (asked S) hsn
    obtain ⟨x1, ⟨a, ha, xa⟩, ⟨b, hb, xb⟩⟩ := pBounds_spec val (asked X) hxn
    obtain ⟨a', ha', ea⟩ := go a ha
    obtain ⟨b', hb', eb⟩ := go b hb
    have v1 := hval a' a ea
    have v2 := hval b' b eb
    have := s1 a' ha'
    have := s1 b' hb'
    have := x1 a ha
    omega
  have hw6 := gX.w6
  have hw0 := gX.w0
  have e6 := gX.e6
  have e6' := gS.e6
  have s5 := gX.s5
  have s5' := gS.s5
  have hbX : boundsL X = boundsP (asked X) 0 X.women.toNat := by simp [boundsL, h0]
  have hbS : boundsL S = boundsP (asked S) 0 X.women.toNat := by simp [boundsL, h1, hw]
  have hget : ∀ (vs : List (Nat → Int)) (i : Nat) (x : Rng), (boundsP vs 0 X.women.toNat)[i]? = some x → i < 6 ∧ x = boundsF vs i := by
    intro vs i x h
    unfold boundsP at h
    rw [List.getElem?_map, Option.map_eq_some_iff] at h
    obtain ⟨j, h1, h2⟩ := h
    obtain ⟨h3, h4⟩ := List.getElem?_eq_some_iff.1 h1
    simp only [List.length_range', List.getElem_range'] at h3 h4
    refine ⟨by omega, ?_⟩
    rw [← h2]; congr 1; omega
  have bo : ∀ (i : Nat) (x y : Rng), (boundsL X)[i]? = some x → (boundsL S)[i]? = some y → y.lo ≤ x.lo ∧ x.hi ≤ y.hi ∧ x.lo ≤ x.hi := by
    intro i x y hx hy
    rw [hbX] at hx
    rw [hbS] at hy
    obtain ⟨i6, rfl⟩ := hget _ i x hx
    obtain ⟨_, rfl⟩ := hget _ i y hy
    exact key (fun a => a i) (fun a b h => h i i6)
  refine ⟨h0, h1, ⟨by omega, by omega⟩, ⟨by omega, by omega⟩, ⟨by rw [hbX]; simp [boundsP]; omega, by rw [hbX, hbS]; simp [boundsP]⟩, fun i x y hx hy => ?_, fun i x y hx hy => ?_, ?_⟩
  · obtain ⟨b1, b2, _⟩ := bo i x y hx hy
    exact ⟨b1, b2⟩
  · rw [List.getElem?_map, Option.map_eq_some_iff] at hx hy
    obtain ⟨u, hu, rfl⟩ := hx
    obtain ⟨v, hv, rfl⟩ := hy
    obtain ⟨b1, b2, b3⟩ := bo i v u hv hu
    unfold owesF
    by_cases c1 : u.hi < 0
    · rw [if_pos c1, if_pos (by omega)]; exact Or.inr rfl
    · rw [if_neg c1]
      by_cases c2 : 0 ≤ u.lo
      · rw [if_pos c2, if_neg (by omega), if_pos (by omega)]; exact Or.inr rfl
      · rw [if_neg c2]; exact Or.inl rfl
  · obtain ⟨k1, k2, _⟩ := key payV (fun a b h => payV_congr h)
    unfold fewestP
    rw [if_pos h0, if_pos h1]
    exact ⟨k1, k2⟩

end Go.Proofs.Ytlhfeiacigmliaa

/- The plain law of other slates: with a payment as an entry, with the entries in another order or the other way round, with wider ranges. -/
namespace Go.Proofs.Ytlhfeiacigmliaa
open Go
set_option maxRecDepth 100000

def EntW (w : Nat) (e : Ent) : Prop := (∃ f t : Nat, f < w ∧ t < w ∧ f ≠ t ∧ e.fr = Int.ofNat f ∧ e.to = Int.ofNat t) ∧ 0 ≤ e.oz.lo ∧ e.oz.lo ≤ e.oz.hi ∧ e.oz.hi ≤ 40
theorem entOk_iff {w : Int} (h0 : 0 ≤ w) (h6 : w ≤ 6) {e : Ent} : entOk w e = true ↔ EntW w.toNat e := by
  have hwr : wr .i64 (w - 1) = w - 1 := wr_in (by omega) (by omega)
  simp only [entOk, pair, woman, hwr, Bool.and_eq_true, within_iff, between_iff, Bool.not_eq_true', decide_eq_false_iff_not]
  constructor
  · rintro ⟨⟨⟨a1, a2⟩, ⟨b1, b2⟩, b3⟩, c1⟩
    exact ⟨⟨e.fr.toNat, e.to.toNat, by omega, by omega, by omega, by simp; omega, by simp; omega⟩, c1⟩
  · rintro ⟨⟨f, t, hf, ht, hne, e1, e2⟩, c1⟩
    rw [e1, e2]
    simp only [Int.ofNat_eq_natCast, Int.ofNat_inj]
    exact ⟨⟨⟨by omega, by omega⟩, ⟨by omega, by omega⟩, hne⟩, c1⟩
theorem check_iff {S : Slate} : checkSlate S = 0 ↔ (0 ≤ S.women ∧ S.women ≤ 6 ∧ S.es.length ≤ 6 ∧ S.ss.length ≤ 5) ∧ (∀ e ∈ S.es, EntW S.women.toNat e) ∧ (∀ x ∈ S.ss, sayOk S.women x = true) ∧ prodN S.es ≤ 2000 := by
  constructor
  · intro h
    have hG := good_of_check h
    have hm := many_of_check h
    have hw := okw_of_check h
    refine ⟨⟨hG.w0, hG.w6, hG.e6, hG.s5⟩, fun e he => ⟨hw e he, hG.oe e he⟩, ?_, hm.1⟩
    unfold checkSlate at h
    split at h
    · cases h
    split at h
    · cases h
    rename_i h1 h2
    simp only [Bool.or_eq_true, decide_eq_true_eq, not_or, Bool.not_eq_true', Bool.not_eq_false] at h2
    have h6 := h2.2
    simpa only [allB, List.all_eq_true] using h6
  · rintro ⟨⟨h1, h2, h3, h4⟩, h5, h6, h7⟩
    have ho : OkE S.es := fun e he => (h5 e he).2
    have hm := manyUp_eq S.es 1 ho (by omega) (by omega)
    rw [ofNat_1] at hm
    unfold checkSlate
    rw [if_neg, if_neg, if_neg]
    · rw [hm]; simp only [decide_eq_true_eq, Int.ofNat_eq_natCast]; omega
    · simp only [Bool.or_eq_true, decide_eq_true_eq, not_or, Bool.not_eq_true', Bool.not_eq_false, allB, List.all_eq_true]
      exact ⟨⟨by omega, fun e he => (entOk_iff h1 h2).2 (h5 e he)⟩, h6⟩
    · simp only [Bool.or_eq_true, decide_eq_true_eq, not_or, Int.not_lt]
      omega
def WiderS (S X : Slate) : Prop := X.women = S.women ∧ X.ss.length = S.ss.length ∧ (∀ L, areOz S.es L = true → areOz X.es L = true ∧ owV X.es L = owV S.es L) ∧
  ∀ (i : Nat) (x y : Say), S.ss[i]? = some x → X.ss[i]? = some y → y.w = x.w ∧ y.ow.lo ≤ x.ow.lo ∧ x.ow.hi ≤ y.ow.hi
theorem wider_right {S X : Slate} (hc : checkSlate S = 0) (h : WiderS S X) {L : List Int} (ha : areOz S.es L = true) {i : Nat} {x y : Say} (hx : S.ss[i]? = some x) (hy : X.ss[i]? = some y) (hr : rightOk S.es L x = true) : rightOk X.es L y = true := by
  obtain ⟨_, _, h3, h4⟩ := h
  obtain ⟨h1, h2, h5⟩ := h4 i x y hx hy
  have ho := (h3 L ha).2
  obtain ⟨u, _, hu⟩ := (good_of_check hc).os x (List.mem_of_getElem? hx)
  unfold rightOk at hr ⊢
  rw [within_iff] at hr ⊢
  rw [hu] at h1 hr
  rw [h1]
  have e : owedUp 0 (Int.ofNat u) X.es L = owedUp 0 (Int.ofNat u) S.es L := congrFun ho u
  rw [e]; omega
theorem wider_law {S X : Slate} (hS : checkSlate S = 0) (hX : checkSlate X = 0) (h : WiderS S X) : (leaveL X).length ≤ (leaveL S).length ∧ ((leaveL S).length = 0 → CloserOk S X) := by
  have gS := good_of_check hS
  have gX := good_of_check hX
  have s5 := gS.s5
  obtain ⟨hw, hl, hL, hs⟩ := h
  have h : WiderS S X := ⟨hw, hl, hL, hs⟩
  obtain ⟨b, b1, b2, b3, b4⟩ := leave_law hS
  obtain ⟨c, c1, c2, c3, c4⟩ := leave_law hX
  rw [hl] at c4
  constructor
  · rw [b2]
    refine c4 b b1 ?_
    rw [can_but gX b]
    obtain ⟨L, l1, l2⟩ := (can_but gS b).1 b3
    refine ⟨L, (hL L l1).1, fun i y hy hb => ?_⟩
    have hi : i < S.ss.length := by rw [← hl]; exact (List.getElem?_eq_some_iff.1 hy).1
    exact wider_right hS h l1 (List.getElem?_eq_getElem hi) hy (l2 i _ (List.getElem?_eq_getElem hi) hb)
  · intro h0
    rw [b2] at h0
    have hb0 := pc_zero (Nat.lt_of_lt_of_le b1 (pw_mono (j := 6) (by omega))) h0
    subst hb0
    obtain ⟨L, l1, l2⟩ := (can_but gS 0).1 b3
    refine closer_of hS hX hw.symm ((asked_ok_iff hS).2 ⟨L, l1, fun i x hx => l2 i x hx (by simp)⟩) ?_
    intro M m1 m2
    refine ⟨(hL M m1).1, fun i y hy => ?_, (hL M m1).2.symm⟩
    have hi : i < S.ss.length := by rw [← hl]; exact (List.getElem?_eq_some_iff.1 hy).1
    exact wider_right hS h m1 (List.getElem?_eq_getElem hi) hy (m2 i _ (List.getElem?_eq_getElem hi))
/-- One entry, or one saying, with a wider range. -/
theorem areOz_set : ∀ {es : List Ent} {L : List Int} {k : Nat} {e : Ent} {r : Rng}, es[k]? = some e → r.lo ≤ e.oz.lo → e.oz.hi ≤ r.hi → areOz es L = true → areOz (es.set k ⟨e.fr, e.to, r⟩) L = true
  | [], _, _, _, _, h, _, _, _ => by simp at h
  | _ :: _, [], _, _, _, _, _, _, h => by simp [areOz] at h
  | d :: es, x :: L, 0, e, r, h, h1, h2, ha => by
    simp only [List.getElem?_cons_zero, Option.some.injEq] at h
    subst h
    simp only [areOz, Bool.and_eq_true, within_iff, List.set_cons_zero] at ha ⊢
    exact ⟨by omega, ha.2⟩
  | d :: es, x :: L, k + 1, e, r, h, h1, h2, ha => by
    simp only [List.getElem?_cons_succ] at h
    simp only [areOz, Bool.and_eq_true, List.set_cons_succ] at ha ⊢
    exact ⟨ha.1, areOz_set h h1 h2 ha.2⟩
theorem owedUp_set (w : Int) : ∀ {es : List Ent} {L : List Int} {k : Nat} {e : Ent} {r : Rng} (n : Int), es[k]? = some e → owedUp n w (es.set k ⟨e.fr, e.to, r⟩) L = owedUp n w es L
  | [], _, _, _, _, _, h => by simp at h
  | d :: es, [], 0, e, r, n, h => rfl
  | d :: es, [], k + 1, e, r, n, h => rfl
  | d :: es, x :: L, 0, e, r, n, h => by
    simp only [List.getElem?_cons_zero, Option.some.injEq] at h
    subst h
    rfl
  | d :: es, x :: L, k + 1, e, r, n, h => by
    simp only [List.getElem?_cons_succ] at h
    rw [List.set_cons_succ, owedUp, owedUp, owedUp_set w _ h]
theorem wider_ent {S : Slate} {k : Nat} {e : Ent} {r : Rng} (h : S.es[k]? = some e) (h1 : r.lo ≤ e.oz.lo) (h2 : e.oz.hi ≤ r.hi) : WiderS S ⟨S.women, S.es.set k ⟨e.fr, e.to, r⟩, S.ss⟩ := by
  refine ⟨rfl, rfl, fun L ha => ⟨areOz_set h h1 h2 ha, ?_⟩, fun i x y hx hy => ?_⟩
  · funext j; exact owedUp_set _ 0 h
  · simp only at hy
    rw [hx] at hy
    cases hy
    exact ⟨rfl, by omega, by omega⟩
theorem wider_say {S : Slate} {k : Nat} {z : Say} {r : Rng} (h : S.ss[k]? = some z) (h1 : r.lo ≤ z.ow.lo) (h2 : z.ow.hi ≤ r.hi) : WiderS S ⟨S.women, S.es, S.ss.set k ⟨z.w, r⟩⟩ := by
  refine ⟨rfl, by simp, fun L ha => ⟨ha, rfl⟩, fun i x y hx hy => ?_⟩
  simp only [List.getElem?_set] at hy
  split at hy
  · rename_i hk
    subst hk
    rw [h] at hx
    cases hx
    split at hy
    · cases hy; exact ⟨rfl, h1, h2⟩
    · cases hy
  · rw [hx] at hy
    cases hy
    exact ⟨rfl, by omega, by omega⟩
end Go.Proofs.Ytlhfeiacigmliaa

/- Calls on memory that stays bs it is: how they run. -/
namespace Go.Proofs.Ytlhfeiacigmliaa
open Go

noncomputable def iceRet (s : St) : Option AVal → Res
  | some v => if v.fresh then v.weak.map fun v => (.ret, [v], s) else none
  | none => none
noncomputable def iceOf (res : List ARes) (s : St) : Res → Res
  | some (.exit _, _, _) => none
  | some (_, fr, s') => iceRet s (tupK (resA fr s' res))
  | none => none
theorem lim_ice {T : Nat → Option AFun} {k : Nat} {F : AFun} (h : T k = some F) (hi : isIce F.gc = true) {args bs : List AVal} {s : St} (ha : mapO (fz 8 s) args = some bs) :
    lim T (.call k args) s = iceOf F.results s (evalCode (lim T) F.body (padV bs F.ntmps) ⟨0, [], 0, fun _ => 0⟩) := by
  have hl := (mapO_get ha).1
  rw [lim_eq]; simp only [stepReq, h, hi, if_true, ha, hl]
  rw [padV_eq]
  change (match evalCode (lim T) F.body (padV bs F.ntmps) ⟨0, [], 0, fun _ => 0⟩ with
    | some (AExit.exit _, _, _) => none
    | some (_, fr, s') => match resultsA F.results fr s' with
      | some v => if v.fresh = true then Option.map (fun v => (AExit.ret, [v], s)) v.weak else none
      | none => none
    | none => none) = _
  cases evalCode (lim T) F.body (padV bs F.ntmps) ⟨0, [], 0, fun _ => 0⟩ with
  | none => rfl
  | some r =>
    obtain ⟨e, fr, s'⟩ := r
    have h : resultsA F.results fr s' = tupK (resA fr s' F.results) := by
      unfold resultsA tupK; rw [resA_eq]; rfl
    cases e with
    | exit _ => rfl
    | _ =>
      simp only [iceOf, h]
      cases tupK (resA fr s' F.results) <;> rfl
theorem lim_ice_at {T : Nat → Option AFun} {k : Nat} {F : AFun} (h : T k = some F) (hi : isIce F.gc = true) {args bs : List AVal} {s : St} (ha : mapO (fz 8 s) args = some bs) {N p : Nat} {q : Nat → Nat} (hN : N = 0) (hp : p = 0) (hq : q = fun _ => 0) :
    lim T (.call k args) s = iceOf F.results s (evalCode (lim T) F.body (padV bs F.ntmps) ⟨N, [], p, q⟩) := by
  subst hN hp hq
  exact lim_ice h hi ha
@[go_sem] theorem iceOf_ret (res : List ARes) (s s' : St) (fr : List AVal) : iceOf res s (some (.ret, fr, s')) = iceRet s (tupK (resA fr s' res)) := (rfl)
theorem iceRet_some {s : St} {v v' : AVal} (hf : v.fresh = true) (hw : v.weak = some v') : iceRet s (some v) = some (.ret, [v'], s) := by
  simp only [iceRet, hf, if_true, hw, Option.map_some]
/-- A number or a truth value. -/
def AVal.plain : AVal → Bool
  | .bool _ | .int .. => true
  | _ => false
theorem plain_of_frz {n sz : Nat} {s : St} {v v0 : AVal} (hp : v.plain = true) (h : frz n s sz v0 = some v) : v0 = v := by
  cases v0 with
  | tup vs =>
    simp only [frz, Option.map_eq_some_iff] at h
    obtain ⟨_, _, rfl⟩ := h
    cases hp
  | hsl b off len cap =>
    simp only [frz, frz1] at h
    split at h
    · cases h
    · split at h
      · split at h
        · simp only [Option.map_eq_some_iff] at h
          obtain ⟨_, _, rfl⟩ := h
          cases hp
        · cases h
      · cases h
  | vref cs | agg cs =>
    simp only [frz, frz1, AVal.weak, Option.map_eq_some_iff] at h
    obtain ⟨_, _, rfl⟩ := h
    cases hp
  | vsl cs len pm =>
    simp only [frz, frz1, AVal.weak, Option.map_eq_some_iff] at h
    obtain ⟨_, _, rfl⟩ := h
    cases hp
  | iface t x =>
    simp only [frz, frz1, AVal.weak, Option.map_eq_some_iff] at h
    obtain ⟨_, _, rfl⟩ := h
    cases hp
  | fn f a c =>
    simp only [frz, frz1, AVal.weak] at h
    split at h
    · cases h; cases hp
    · cases h
  | sl0 =>
    simp only [frz, frz1, AVal.weak, Option.some.injEq] at h
    subst h; cases hp
  | _ => first | (simp only [frz, frz1, AVal.weak, Option.some.injEq] at h; exact h) | (simp [frz, frz1, AVal.weak] at h)
/-- What the function returns on lists, it returns on memory that stays. -/
theorem lim_ice_of {T : Nat → Option AFun} {k k0 sz : Nat} {F F0 : AFun} (h0 : T k0 = some F0) (hg : F0.gc = some sz) (hi0 : isIce (some sz) = false) (h : T k = some F) (hi : isIce F.gc = true) (hb : F.body = F0.body) (hr : F.results = F0.results) (hn : F.ntmps = F0.ntmps)
    {args bs : List AVal} {s : St} {v : AVal} {s1 : St} (hp : v.plain = true) (ha : mapO (fz 8 s) args = some bs) (has : norms bs = bs) (hv : lim T (.call k0 bs) ⟨0, [], 0, fun _ => 0⟩ = some (.ret, [v], s1)) : lim T (.call k args) s = some (.ret, [v], s) := by
  rw [lim_ice h hi ha, hb, hr, hn]
  rw [lim_call h0 (by rw [hg]; exact hi0), hg, frameV_some, has] at hv
  cases hE : evalCode (lim T) F0.body (padV bs F0.ntmps) ⟨0, [], 0, fun _ => 0⟩ with
  | none => rw [hE] at hv; cases hv
  | some r =>
    obtain ⟨e, fr, s'⟩ := r
    rw [hE] at hv
    cases e with
    | exit _ => cases hv
    | _ =>
      simp only [retOf] at hv
      simp only [iceOf]
      cases hK : tupK (resA fr s' F0.results) with
      | none => rw [hK] at hv; cases hv
      | some v0 =>
        rw [hK] at hv
        simp only [retK, gcK] at hv
        split at hv
        · simp only [Option.map_eq_some_iff, Prod.mk.injEq, List.cons.injEq, and_true, true_and] at hv
          obtain ⟨v1, h1, rfl, _⟩ := hv
          have := plain_of_frz hp h1
          subst this
          have hf : v0.fresh = true := by cases v0 <;> first | rfl | cases hp
          have hw : v0.weak = some v0 := by cases v0 <;> first | rfl | cases hp
          simp only [iceRet, hf, if_true, hw, Option.map_some]
        · cases hv
theorem mapO_append {f : AVal → Option AVal} : ∀ {a b a' b' : List AVal}, mapO f a = some a' → mapO f b = some b' → mapO f (a ++ b) = some (a' ++ b')
  | [], b, a', b', h, h' => by simp only [mapO, Option.some.injEq] at h; subst h; exact h'
  | x :: a, b, a', b', h, h' => by
    simp only [mapO] at h
    split at h
    · rename_i y ys h1 h2
      cases h
      simp only [List.cons_append, mapO, h1, mapO_append h2 h']
    · cases h
theorem mapO_cells {α : Type} {f : α → List AVal} {g : AVal → Option AVal} (hf : ∀ a, mapO g (f a) = some (f a)) (l : List α) : mapO g (cellsOf f l) = some (cellsOf f l) := by
  induction l with
  | nil => rfl
  | cons a l ih => rw [cells_cons]; exact mapO_append (hf a) ih
theorem mapO_cons {f : AVal → Option AVal} {a a' : AVal} {l l' : List AVal} (h : f a = some a') (h' : mapO f l = some l') : mapO f (a :: l) = some (a' :: l') := by simp only [mapO, h, h']
theorem mapO_nil (f : AVal → Option AVal) : mapO f [] = some [] := rfl
theorem fz_int (n : Nat) (s : St) (k : IntKind) (z : Int) : fz (n + 1) s (.int k z) = some (.int k z) := rfl
theorem fz_agg {n : Nat} {s : St} {cs cs' : List AVal} (h : mapO (fz n s) cs = some cs') : fz (n + 1) s (.agg cs) = some (.agg cs') := by simp only [fz, h, Option.map_some]
theorem fz_vsl {α : Type} {f : α → List AVal} {n : Nat} {s : St} (hf : ∀ a, mapO (fz n s) (f a) = some (f a)) (l : List α) (k : Nat) (pm : Perm) : fz (n + 1) s (.vsl (cellsOf f l) k pm) = some (.vsl (cellsOf f l) k .no) := by
  simp only [fz, mapO_cells hf, Option.map_some]
theorem fz_hsl {α : Type} {f : α → List AVal} {n : Nat} {s : St} (hf : ∀ a, mapO (fz n s) (f a) = some (f a)) {b : Nat} {l : List α} (hg : s.get b = some (.cells (cellsOf f l))) : fz (n + 1) s (.hsl b 0 (lenOf l) none) = some (sl f l) := by
  simp only [fz, hg, fzT, List.drop_zero, mapO_cells hf, Option.map_some]
end Go.Proofs.Ytlhfeiacigmliaa

/- The wash-house's soap: what the functions compute: payments and sayings by words. -/
namespace Go.Proofs.Ytlhfeiacigmliaa
open Go
set_option maxRecDepth 10000

end Go.Proofs.Ytlhfeiacigmliaa

/- The wash-house's soap: what the functions compute: copies of lists in the heap or with rights, and sayings by words. -/
namespace Go.Proofs.Ytlhfeiacigmliaa
open Go
set_option maxRecDepth 10000

@[go_sem] theorem op_appendHs (H : Han) (fr : List AVal) (s : St) (x y : AOpd) (sz bytes : Nat) : evalOp H (.appendHs sz bytes x y) fr s = appendHsA sz bytes (x.eval fr) (y.eval fr) s := (rfl)
theorem appHs_at {α : Type} {f : α → List AVal} {sz : Nat} (hf : ∀ a, (f a).length = sz) (bytes : Nat) (N : Nat) (O : List AObj) (p : Nat) (q : Nat → Nat) (l : List α) (h0 : l.length ≠ 0) (h : l.length * bytes ≤ 140737488355328) (h' : l.length ≤ 140737488355328) :
    appendHsA sz bytes (.vsl [] 0 .full) (.vsl (cellsOf f l) (lenOf l) .no) ⟨N, O, p, q⟩ = some (.hsl N 0 (lenOf l) none, ⟨na N 1, .cells (cellsOf f l) :: O, p, q⟩) := by
  have he : elemsA ⟨N, O, p, q⟩ sz (.vsl (cellsOf f l) l.length .no) = some (l.length, cellsOf f l) := by simp [elemsA, cells_length hf]
  unfold appendHsA lenOf
  rw [he]
  simp [h0, h, h', na, St.push]
end Go.Proofs.Ytlhfeiacigmliaa

/- The wash-house's soap: what the functions compute on memory that stays as it is. -/
namespace Go.Proofs.Ytlhfeiacigmliaa
open Go
set_option maxRecDepth 10000

theorem fz_cE (n : Nat) (s : St) (e : Ent) : mapO (fz (n + 1) s) (cE e) = some (cE e) := rfl
theorem fz_cS (n : Nat) (s : St) (x : Say) : mapO (fz (n + 1) s) (cS x) = some (cS x) := rfl
theorem norms_vSl (S : Slate) : norms [vSl S] = [vSl S] := by simp only [norms_cons, norms_nil, vSl, norm_agg, norm_int, norm_vsl, sl, norms_cE, norms_cS]
/-- A slate whose lists lie in the heap. -/
def IceS (s : St) (v : AVal) (X : Slate) : Prop := fz 8 s v = some (vSl X)
theorem iceS_mk {s : St} {w : Int} {a b : AVal} {es : List Ent} {ss : List Say} (h1 : fz 7 s a = some (sl cE es)) (h2 : fz 7 s b = some (sl cS ss)) : IceS s (.agg [i64 w, a, b]) ⟨w, es, ss⟩ :=
  fz_agg (mapO_cons (fz_int _ _ _ _) (mapO_cons h1 (mapO_cons h2 (mapO_nil _))))
theorem iceS_self (s : St) (S : Slate) : IceS s (vSl S) S :=
  iceS_mk (fz_vsl (fz_cE _ _) _ _ _) (fz_vsl (fz_cS _ _) _ _ _)
theorem ice_one {s : St} {v : AVal} {X : Slate} (h : IceS s v X) : mapO (fz 8 s) [v] = some [vSl X] := mapO_cons h (mapO_nil _)
theorem k46i {s : St} {v : AVal} {X : Slate} (h : IceS s v X) : lim tbl (.call 12334 [v]) s = some (.ret, [.bool (readyS X)], s) :=
  lim_ice_of tbl_46 rfl rfl tbl_46v3 rfl rfl rfl rfl rfl (ice_one h) (norms_vSl X) (k46 X _)
theorem k57i {s : St} {u v : AVal} {X S : Slate} (hu : IceS s u X) (hv : IceS s v S) (hC : CloserOk X S) : lim tbl (.call 12345 [u, v]) s = some (.ret, [.bool true], s) :=
  lim_ice_of tbl_57 rfl rfl tbl_57v3 rfl rfl rfl rfl rfl (mapO_cons hu (mapO_cons hv (mapO_nil _))) (by rw [norms_cons, ← norms_vSl S]; simp only [norms_cons, norms_nil, vSl, norm_agg, norm_int, norm_vsl, sl, norms_cE, norms_cS]) (k57 X S hC _)
theorem fresh_own {α : Type} {f : α → List AVal} (hf : ∀ a, freshs (f a) = true) (p : Nat) (l : List α) : AVal.fresh (ownSl f p l) = true := by
  have h : ∀ l, freshs (cellsOf f l) = true := by
    intro l
    induction l with
    | nil => rfl
    | cons a l ih =>
      rw [cells_cons]
      have : ∀ a b, freshs (a ++ b) = (freshs a && freshs b) := by
        intro a b
        induction a with
        | nil => simp [freshs]
        | cons x a iha => simp [freshs, iha, Bool.and_assoc]
      rw [this, hf, ih]; rfl
  unfold ownSl
  split
  · rfl
  · simp only [AVal.fresh]; exact h l
theorem fresh_agg3 {w : Int} {a b : AVal} (ha : a.fresh = true) (hb : b.fresh = true) : AVal.fresh (.agg [.int .i64 w, a, b]) = true := by
  simp only [AVal.fresh, freshs, ha, hb, Bool.and_true]
theorem weak_agg3 {w : Int} {a b a' b' : AVal} (ha : a.weak = some a') (hb : b.weak = some b') : AVal.weak (.agg [.int .i64 w, a, b]) = some (.agg [.int .i64 w, a', b']) := by
  simp only [AVal.weak, weaks, ha, hb, Option.map_some]
theorem k24i {s : St} {v : AVal} {X : Slate} (h : IceS s v X) (hE : X.es.length < 1000000) (hS : X.ss.length < 1000000) : lim tbl (.call 12312 [v]) s = some (.ret, [vSl X], s) := by
  obtain ⟨N, hN⟩ : ∃ N : Nat, N = 0 := ⟨0, rfl⟩
  obtain ⟨p, hp⟩ : ∃ N : Nat, N = 0 := ⟨0, rfl⟩
  obtain ⟨q, hq⟩ : ∃ q : Nat → Nat, q = fun _ => 0 := ⟨_, rfl⟩
  rw [lim_ice_at tbl_24v3 rfl (ice_one h) hN hp hq]
  clear hN hp hq
  obtain ⟨w, es, ss⟩ := X
  have e0 : a24v3_l0 = a24_l0 := rfl
  have e1 : a24v3_l1 = a24_l1 := rfl
  have h0 := l24_0 w es ss hE N [] p q es.length 0 [] (by omega) rfl
  rw [List.drop_zero, nil_app, ownSl_nil, show lenOf ([] : List Ent) = 0 from rfl, roomP_0, roomC_0, ofNat_0, ← e0] at h0
  have h1 := l24_1 w es ss hS N [] (roomP p (lenOf es)) (roomC p q (lenOf es)) (ownSl cE p es) ss.length 0 [] (by omega) rfl
  rw [List.drop_zero, nil_app, ownSl_nil, show lenOf ([] : List Say) = 0 from rfl, roomP_0, roomC_0, ofNat_0, ← e1] at h1
  have f0 := fresh_own (f := cE) (fun _ => rfl) p es
  have f1 := fresh_own (f := cS) (fun _ => rfl) (roomP p (lenOf es)) ss
  have f2 := iceRet_some (s := s) (fresh_agg3 (w := w) f0 f1) (weak_agg3 (weak_own_cE p es) (weak_own_cS (roomP p (lenOf es)) ss))
  (try simp only [go_sem, ↓reduceIte, Nat.reduceAdd, Nat.reduceEqDiff, Nat.reduceLT, Nat.reduceLeDiff, Nat.reduceBEq, Int.reduceEq, Int.reduceLT, Int.reduceLE]); (repeat ((first | rw [h0] | rw [h1] | rw [f2] | (rw [lt_yes]; rotate_left; (first | omega | (simp [lenOf, app]; omega) | (simp only [lenOf]; omega))) | (rw [lt_no]; rotate_left; (first | omega | (simp [lenOf, app]; omega) | (simp only [lenOf]; omega))) | (rw [idxA_at]; rotate_left; (first | omega | (simp [lenOf, app]; omega) | (simp only [lenOf]; omega))) | (rw [wr_up]; rotate_left; (first | omega | (simp [lenOf, app]; omega) | (simp only [lenOf]; omega))) | ((first | rw [drop_cI] | rw [drop_cE] | rw [drop_cS] | rw [drop_cP] | rw [drop_cR]); rotate_left; assumption)); try simp only [go_sem, ↓reduceIte, Nat.reduceAdd, Nat.reduceEqDiff, Nat.reduceLT, Nat.reduceLeDiff, Nat.reduceBEq, Int.reduceEq, Int.reduceLT, Int.reduceLE]))
end Go.Proofs.Ytlhfeiacigmliaa

/- From the evaluator to the rows: arguments beside a slate. -/
namespace Go.Proofs.Ytlhfeiacigmliaa
open Go Go.ChangeShapes Go.RowKit
set_option maxRecDepth 100000
section
variable {H : Type} {enc : TypeId × Value → H} {w : World} {base : Nat}
theorem rel_int {P : Program} {t : TypeId} {kd : IntKind} (hu : P.underlying t = some (.int kd)) {v : Value} {d : DataW H} {p : List MemPlace} (hok : Value.okWide P w .any base t v) (h : DataW.Trod enc P w 0 (fun _ => true) true t v d p) : ∃ n : Int, v = .int kd n ∧ (Lit.int kd n).wf = true := by
  obtain ⟨fuel, h⟩ := h
  unfold Value.okWide at hok
  rw [hu] at hok
  cases fuel with
  | zero => simp [DataW.trod] at h
  | succ fuel =>
    unfold DataW.trod at h
    rw [hu] at h
    cases v with
    | int k n =>
      simp only [Value.cells] at h
      split at h
      · rename_i hc
        obtain ⟨rfl, hw⟩ := hc
        exact ⟨n, rfl, hw⟩
      · cases h
    | agg cs =>
      exfalso
      unfold Cell.okWide at hok
      rw [hu] at hok
      unfold Cell.ok at hok
      rw [hu] at hok
      exact hok
    | _ => simp only [Value.cells] at h; cases h
theorem rel_u8 {v : Value} {d : DataW H} {p : List MemPlace} (hok : Value.okWide Try.prog w .any base 5 v) (h : DataW.Trod enc Try.prog w 0 (fun _ => true) true 5 v d p) : ∃ m : Nat, m < 256 ∧ VRel (rho0 w) (.int .u8 (Int.ofNat m)) v := by
  obtain ⟨n, rfl, hw⟩ := rel_int Try.underlying5 hok h
  simp only [Lit.wf, Bool.and_eq_true, decide_eq_true_eq, show IntKind.min .u8 = 0 from rfl, show IntKind.max .u8 = 255 from rfl] at hw
  obtain ⟨m, rfl⟩ : ∃ m : Nat, n = Int.ofNat m := ⟨n.toNat, by simp; omega⟩
  exact ⟨m, by simp at hw; omega, rfl⟩
end
end Go.Proofs.Ytlhfeiacigmliaa
