/- The wash-house's soap: what the functions compute: bits, sets and bounds of the document's answer. -/
import Derived.Test.YtlhfeiacigmliaaPartG
set_option linter.all false
namespace Go.Proofs.Ytlhfeiacigmliaa
open Go
set_option maxRecDepth 10000

def bitF (m n : Nat) : List Int := if bmod (bshr m n) 2 = 1 then [Int.ofNat n] else []
def bitsOf (m : Nat) : List Int := upto (bitF m) 0 60
theorem bitF_len (m n : Nat) : (bitF m n).length ≤ 1 := by unfold bitF; split <;> simp
theorem bshr_0 {m i : Nat} (h : m < pw i) : bshr m i = 0 := by
  unfold bshr; rw [Nat.shiftRight_eq_div_pow]; exact Nat.div_eq_of_lt h
theorem upto_bits_nil {m : Nat} : ∀ {k i : Nat}, bshr m i = 0 → upto (bitF m) i k = []
  | 0, i, _ => rfl
  | k + 1, i, h => by
    have h' : bshr m (i + 1) = 0 := by
      unfold bshr at h ⊢; rw [Nat.shiftRight_succ, h]
    rw [upto_s, upto_bits_nil h']
    simp [bitF, h, bmod]
theorem l61 (m : Nat) (hm : m < pw 60) (N : Nat) (O : List AObj) (p : Nat) (q : Nat → Nat) : ∀ (k i : Nat) (acc : List Int), i + k = 60 → acc.length ≤ i →
   lim tbl (.loop a61_l0 23 ⟨[0, 3, 4], [3], []⟩ [i64 (Int.ofNat m), ownSl cI p acc, i64 (Int.ofNat i)]) ⟨N, O, roomP p (lenOf acc), roomC p q (lenOf acc)⟩
     = some (.exit 0, [ownSl cI p (app acc (upto (bitF m) i k))], ⟨N, O, roomP p (lenOf (app acc (upto (bitF m) i k))), roomC p q (lenOf (app acc (upto (bitF m) i k)))⟩) := by
  intro k
  induction k with
  | zero =>
    intro i acc hi ha
    have h0 : bshr m i = 0 := bshr_0 (by rw [show i = 60 by omega]; exact hm)
    have hs : shrI (Int.ofNat m) (Int.ofNat i) = some (i64 (Int.ofNat (bshr m i))) := shr_at (by omega)
    rw [h0] at hs
    rw [upto_0, app_nil, lim_loop]
    (try simp only [go_sem, ↓reduceIte, Nat.reduceAdd, Nat.reduceEqDiff, Nat.reduceLT, Nat.reduceLeDiff, Nat.reduceBEq, Int.reduceEq, Int.reduceLT, Int.reduceLE]); (repeat ((first | (rw [wr_u]; rotate_left; (omega)) | rw [hs] | (rw [lt_yes]; rotate_left; (first | omega | (simp [lenOf, app]; omega) | (simp only [lenOf]; omega))) | (rw [lt_no]; rotate_left; (first | omega | (simp [lenOf, app]; omega) | (simp only [lenOf]; omega))) | (rw [idxA_at]; rotate_left; (first | omega | (simp [lenOf, app]; omega) | (simp only [lenOf]; omega))) | (rw [wr_up]; rotate_left; (first | omega | (simp [lenOf, app]; omega) | (simp only [lenOf]; omega))) | ((first | rw [drop_cI] | rw [drop_cE] | rw [drop_cS] | rw [drop_cP] | rw [drop_cR]); rotate_left; assumption)); try simp only [go_sem, ↓reduceIte, Nat.reduceAdd, Nat.reduceEqDiff, Nat.reduceLT, Nat.reduceLeDiff, Nat.reduceBEq, Int.reduceEq, Int.reduceLT, Int.reduceLE]))
  | succ k ih =>
    intro i acc hi ha
    have hs : shrI (Int.ofNat m) (Int.ofNat i) = some (i64 (Int.ofNat (bshr m i))) := shr_at (by omega)
    by_cases h0 : bshr m i = 0
    · rw [h0] at hs
      rw [upto_bits_nil h0, app_nil, lim_loop]
      (try simp only [go_sem, ↓reduceIte, Nat.reduceAdd, Nat.reduceEqDiff, Nat.reduceLT, Nat.reduceLeDiff, Nat.reduceBEq, Int.reduceEq, Int.reduceLT, Int.reduceLE]); (repeat ((first | (rw [wr_u]; rotate_left; (omega)) | rw [hs] | (rw [lt_yes]; rotate_left; (first | omega | (simp [lenOf, app]; omega) | (simp only [lenOf]; omega))) | (rw [lt_no]; rotate_left; (first | omega | (simp [lenOf, app]; omega) | (simp only [lenOf]; omega))) | (rw [idxA_at]; rotate_left; (first | omega | (simp [lenOf, app]; omega) | (simp only [lenOf]; omega))) | (rw [wr_up]; rotate_left; (first | omega | (simp [lenOf, app]; omega) | (simp only [lenOf]; omega))) | ((first | rw [drop_cI] | rw [drop_cE] | rw [drop_cS] | rw [drop_cP] | rw [drop_cR]); rotate_left; assumption)); try simp only [go_sem, ↓reduceIte, Nat.reduceAdd, Nat.reduceEqDiff, Nat.reduceLT, Nat.reduceLeDiff, Nat.reduceBEq, Int.reduceEq, Int.reduceLT, Int.reduceLE]))
    have hpos : (0 : Int) < Int.ofNat (bshr m i) := by simp; omega
    have hr : remI (Int.ofNat (bshr m i)) 2 = some (i64 (Int.ofNat (bmod (bshr m i) 2))) := rem2_at _
    rw [upto_s, app_app]
    by_cases ht : bmod (bshr m i) 2 = 1
    · have hf : bitF m i = [Int.ofNat i] := by simp [bitF, ht]
      have h' := ih (i + 1) (app acc [Int.ofNat i]) (by omega) (by simp [app]; omega)
      have happ := append_own (f := cI) (sz := 1) (fun _ => rfl) 8 p q N O acc (Int.ofNat i) [i64 (Int.ofNat i)] rfl .full (by omega) (by omega)
      rw [ht] at hr
      rw [hf, lim_loop]
      generalize hR : some (_, _, _) = R at h' ⊢
      (try simp only [go_sem, ↓reduceIte, Nat.reduceAdd, Nat.reduceEqDiff, Nat.reduceLT, Nat.reduceLeDiff, Nat.reduceBEq, Int.reduceEq, Int.reduceLT, Int.reduceLE]); (repeat ((first | (rw [wr_u]; rotate_left; (omega)) | rw [hs] | rw [lt_y hpos] | rw [hr] | rw [happ] | (rw [lt_yes]; rotate_left; (first | omega | (simp [lenOf, app]; omega) | (simp only [lenOf]; omega))) | (rw [lt_no]; rotate_left; (first | omega | (simp [lenOf, app]; omega) | (simp only [lenOf]; omega))) | (rw [idxA_at]; rotate_left; (first | omega | (simp [lenOf, app]; omega) | (simp only [lenOf]; omega))) | (rw [wr_up]; rotate_left; (first | omega | (simp [lenOf, app]; omega) | (simp only [lenOf]; omega))) | ((first | rw [drop_cI] | rw [drop_cE] | rw [drop_cS] | rw [drop_cP] | rw [drop_cR]); rotate_left; assumption)); try simp only [go_sem, ↓reduceIte, Nat.reduceAdd, Nat.reduceEqDiff, Nat.reduceLT, Nat.reduceLeDiff, Nat.reduceBEq, Int.reduceEq, Int.reduceLT, Int.reduceLE]))
      exact h'
    · have hf : bitF m i = [] := by simp [bitF, ht]
      have h' := ih (i + 1) acc (by omega) (by omega)
      have ht0 : bmod (bshr m i) 2 = 0 := by unfold bmod at *; omega
      rw [ht0] at hr
      rw [hf, app_nil, lim_loop]
      generalize hR : some (_, _, _) = R at h' ⊢
      (try simp only [go_sem, ↓reduceIte, Nat.reduceAdd, Nat.reduceEqDiff, Nat.reduceLT, Nat.reduceLeDiff, Nat.reduceBEq, Int.reduceEq, Int.reduceLT, Int.reduceLE]); (repeat ((first | (rw [wr_u]; rotate_left; (omega)) | rw [hs] | rw [lt_y hpos] | rw [hr] | (rw [lt_yes]; rotate_left; (first | omega | (simp [lenOf, app]; omega) | (simp only [lenOf]; omega))) | (rw [lt_no]; rotate_left; (first | omega | (simp [lenOf, app]; omega) | (simp only [lenOf]; omega))) | (rw [idxA_at]; rotate_left; (first | omega | (simp [lenOf, app]; omega) | (simp only [lenOf]; omega))) | (rw [wr_up]; rotate_left; (first | omega | (simp [lenOf, app]; omega) | (simp only [lenOf]; omega))) | ((first | rw [drop_cI] | rw [drop_cE] | rw [drop_cS] | rw [drop_cP] | rw [drop_cR]); rotate_left; assumption)); try simp only [go_sem, ↓reduceIte, Nat.reduceAdd, Nat.reduceEqDiff, Nat.reduceLT, Nat.reduceLeDiff, Nat.reduceBEq, Int.reduceEq, Int.reduceLT, Int.reduceLE]))
      exact h'
theorem k61 (m : Nat) (hm : m < pw 60) (s : St) : lim tbl (.call 61 [i64 (Int.ofNat m)]) s = some (.ret, [sl cI (bitsOf m)], s) := by
  rw [lim_call tbl_61]; obtain ⟨N, O, p, q⟩ := s
  have h0 := l61 m hm N O p q 60 0 [] (by omega) (by simp)
  rw [nil_app, ownSl_nil, show lenOf ([] : List Int) = 0 from rfl, roomP_0, roomC_0, ofNat_0] at h0
  change _ = some (_, [ownSl cI p (bitsOf m)], (⟨N, O, roomP p (lenOf (bitsOf m)), roomC p q (lenOf (bitsOf m))⟩ : St)) at h0
  generalize bitsOf m = A at h0 ⊢
  (try simp only [go_sem, ↓reduceIte, Nat.reduceAdd, Nat.reduceEqDiff, Nat.reduceLT, Nat.reduceLeDiff, Nat.reduceBEq, Int.reduceEq, Int.reduceLT, Int.reduceLE]); (repeat ((first | rw [h0] | (rw [lt_yes]; rotate_left; (first | omega | (simp [lenOf, app]; omega) | (simp only [lenOf]; omega))) | (rw [lt_no]; rotate_left; (first | omega | (simp [lenOf, app]; omega) | (simp only [lenOf]; omega))) | (rw [idxA_at]; rotate_left; (first | omega | (simp [lenOf, app]; omega) | (simp only [lenOf]; omega))) | (rw [wr_up]; rotate_left; (first | omega | (simp [lenOf, app]; omega) | (simp only [lenOf]; omega))) | ((first | rw [drop_cI] | rw [drop_cE] | rw [drop_cS] | rw [drop_cP] | rw [drop_cR]); rotate_left; assumption)); try simp only [go_sem, ↓reduceIte, Nat.reduceAdd, Nat.reduceEqDiff, Nat.reduceLT, Nat.reduceLeDiff, Nat.reduceBEq, Int.reduceEq, Int.reduceLT, Int.reduceLE]))
theorem bitsOf_len (m : Nat) : (bitsOf m).length ≤ 60 := upto_len (bitF_len m) 0 60

def beforeL : List Int → List Int → Bool
  | a :: l, b :: l' => if a = b then beforeL l l' else decide (a < b)
  | [], _ :: _ => true
  | _, [] => false
theorem beforeL_nil (a : List Int) : beforeL a [] = false := by cases a <;> rfl
theorem l95 (a b : List Int) (hl : a.length < 1000000) (hl' : b.length < 1000000) (s : St) : ∀ (k i : Nat), i + k = a.length → i ≤ b.length →
   lim tbl (.loop a95_l0 41 ⟨[0, 1, 5], [0, 1], [4]⟩ [sl cI a, sl cI b, i64 (Int.ofNat i)]) s = some (.ret, [.bool (beforeL (a.drop i) (b.drop i))], s) ∨
   (lim tbl (.loop a95_l0 41 ⟨[0, 1, 5], [0, 1], [4]⟩ [sl cI a, sl cI b, i64 (Int.ofNat i)]) s = some (.exit 0, [sl cI a, sl cI b], s) ∧ beforeL (a.drop i) (b.drop i) = decide (a.length < b.length)) := by
  intro k
  induction k with
  | zero =>
    intro i hi hb
    right
    constructor
    · rw [lim_loop]
      obtain ⟨N, O, p, q⟩ := s
      (try simp only [go_sem, ↓reduceIte, Nat.reduceAdd, Nat.reduceEqDiff, Nat.reduceLT, Nat.reduceLeDiff, Nat.reduceBEq, Int.reduceEq, Int.reduceLT, Int.reduceLE]); (repeat ((first | (rw [lt_yes]; rotate_left; (first | omega | (simp [lenOf, app]; omega) | (simp only [lenOf]; omega))) | (rw [lt_no]; rotate_left; (first | omega | (simp [lenOf, app]; omega) | (simp only [lenOf]; omega))) | (rw [idxA_at]; rotate_left; (first | omega | (simp [lenOf, app]; omega) | (simp only [lenOf]; omega))) | (rw [wr_up]; rotate_left; (first | omega | (simp [lenOf, app]; omega) | (simp only [lenOf]; omega))) | ((first | rw [drop_cI] | rw [drop_cE] | rw [drop_cS] | rw [drop_cP] | rw [drop_cR]); rotate_left; assumption)); try simp only [go_sem, ↓reduceIte, Nat.reduceAdd, Nat.reduceEqDiff, Nat.reduceLT, Nat.reduceLeDiff, Nat.reduceBEq, Int.reduceEq, Int.reduceLT, Int.reduceLE]))
    · rw [List.drop_eq_nil_of_le (by omega)]
      by_cases h : i = b.length
      · rw [List.drop_eq_nil_of_le (by omega)]
        simp [beforeL]; omega
      · obtain ⟨x, _, hx⟩ := getElem_drop (show i < b.length by omega)
        rw [hx]; simp [beforeL]; omega
  | succ k ih =>
    intro i hi hb
    have hlt : i < a.length := by omega
    obtain ⟨x, hx, hd⟩ := getElem_drop hlt
    have hc := drop_cI hx
    by_cases hlt' : i < b.length
    · obtain ⟨y, hy, hd'⟩ := getElem_drop hlt'
      have hc' := drop_cI hy
      rw [hd, hd']
      by_cases ht : x = y
      · have h' := ih (i + 1) (by omega) (by omega)
        have hbe : beforeL (x :: a.drop (i + 1)) (y :: b.drop (i + 1)) = beforeL (a.drop (i + 1)) (b.drop (i + 1)) := by simp [beforeL, ht]
        rw [hbe]
        have hstep : lim tbl (.loop a95_l0 41 ⟨[0, 1, 5], [0, 1], [4]⟩ [sl cI a, sl cI b, i64 (Int.ofNat i)]) s = lim tbl (.loop a95_l0 41 ⟨[0, 1, 5], [0, 1], [4]⟩ [sl cI a, sl cI b, i64 (Int.ofNat (i + 1))]) s := by
          rw [lim_loop]
          generalize hR : lim tbl (.loop a95_l0 41 ⟨[0, 1, 5], [0, 1], [4]⟩ [sl cI a, sl cI b, i64 (Int.ofNat (i + 1))]) s = R
          obtain ⟨N, O, p, q⟩ := s
          (try simp only [go_sem, ↓reduceIte, Nat.reduceAdd, Nat.reduceEqDiff, Nat.reduceLT, Nat.reduceLeDiff, Nat.reduceBEq, Int.reduceEq, Int.reduceLT, Int.reduceLE]); (repeat ((first | rw [hc] | rw [hc'] | rw [eq_y ht] | (rw [lt_yes]; rotate_left; (first | omega | (simp [lenOf, app]; omega) | (simp only [lenOf]; omega))) | (rw [lt_no]; rotate_left; (first | omega | (simp [lenOf, app]; omega) | (simp only [lenOf]; omega))) | (rw [idxA_at]; rotate_left; (first | omega | (simp [lenOf, app]; omega) | (simp only [lenOf]; omega))) | (rw [wr_up]; rotate_left; (first | omega | (simp [lenOf, app]; omega) | (simp only [lenOf]; omega))) | ((first | rw [drop_cI] | rw [drop_cE] | rw [drop_cS] | rw [drop_cP] | rw [drop_cR]); rotate_left; assumption)); try simp only [go_sem, ↓reduceIte, Nat.reduceAdd, Nat.reduceEqDiff, Nat.reduceLT, Nat.reduceLeDiff, Nat.reduceBEq, Int.reduceEq, Int.reduceLT, Int.reduceLE]))
          exact hR
        rw [hstep]; exact h'
      · left
        have hbe : beforeL (x :: a.drop (i + 1)) (y :: b.drop (i + 1)) = decide (x < y) := by simp [beforeL, ht]
        rw [hbe, lim_loop]
        obtain ⟨N, O, p, q⟩ := s
        by_cases hxy : x < y
        · simp only [hxy, decide_true]
          (try simp only [go_sem, ↓reduceIte, Nat.reduceAdd, Nat.reduceEqDiff, Nat.reduceLT, Nat.reduceLeDiff, Nat.reduceBEq, Int.reduceEq, Int.reduceLT, Int.reduceLE]); (repeat ((first | rw [hc] | rw [hc'] | rw [eq_n ht] | rw [lt_y hxy] | (rw [lt_yes]; rotate_left; (first | omega | (simp [lenOf, app]; omega) | (simp only [lenOf]; omega))) | (rw [lt_no]; rotate_left; (first | omega | (simp [lenOf, app]; omega) | (simp only [lenOf]; omega))) | (rw [idxA_at]; rotate_left; (first | omega | (simp [lenOf, app]; omega) | (simp only [lenOf]; omega))) | (rw [wr_up]; rotate_left; (first | omega | (simp [lenOf, app]; omega) | (simp only [lenOf]; omega))) | ((first | rw [drop_cI] | rw [drop_cE] | rw [drop_cS] | rw [drop_cP] | rw [drop_cR]); rotate_left; assumption)); try simp only [go_sem, ↓reduceIte, Nat.reduceAdd, Nat.reduceEqDiff, Nat.reduceLT, Nat.reduceLeDiff, Nat.reduceBEq, Int.reduceEq, Int.reduceLT, Int.reduceLE]))
        · simp only [hxy, decide_false]
          (try simp only [go_sem, ↓reduceIte, Nat.reduceAdd, Nat.reduceEqDiff, Nat.reduceLT, Nat.reduceLeDiff, Nat.reduceBEq, Int.reduceEq, Int.reduceLT, Int.reduceLE]); (repeat ((first | rw [hc] | rw [hc'] | rw [eq_n ht] | rw [lt_n hxy] | (rw [lt_yes]; rotate_left; (first | omega | (simp [lenOf, app]; omega) | (simp only [lenOf]; omega))) | (rw [lt_no]; rotate_left; (first | omega | (simp [lenOf, app]; omega) | (simp only [lenOf]; omega))) | (rw [idxA_at]; rotate_left; (first | omega | (simp [lenOf, app]; omega) | (simp only [lenOf]; omega))) | (rw [wr_up]; rotate_left; (first | omega | (simp [lenOf, app]; omega) | (simp only [lenOf]; omega))) | ((first | rw [drop_cI] | rw [drop_cE] | rw [drop_cS] | rw [drop_cP] | rw [drop_cR]); rotate_left; assumption)); try simp only [go_sem, ↓reduceIte, Nat.reduceAdd, Nat.reduceEqDiff, Nat.reduceLT, Nat.reduceLeDiff, Nat.reduceBEq, Int.reduceEq, Int.reduceLT, Int.reduceLE]))
    · right
      constructor
      · rw [lim_loop]
        obtain ⟨N, O, p, q⟩ := s
        (try simp only [go_sem, ↓reduceIte, Nat.reduceAdd, Nat.reduceEqDiff, Nat.reduceLT, Nat.reduceLeDiff, Nat.reduceBEq, Int.reduceEq, Int.reduceLT, Int.reduceLE]); (repeat ((first | (rw [lt_yes]; rotate_left; (first | omega | (simp [lenOf, app]; omega) | (simp only [lenOf]; omega))) | (rw [lt_no]; rotate_left; (first | omega | (simp [lenOf, app]; omega) | (simp only [lenOf]; omega))) | (rw [idxA_at]; rotate_left; (first | omega | (simp [lenOf, app]; omega) | (simp only [lenOf]; omega))) | (rw [wr_up]; rotate_left; (first | omega | (simp [lenOf, app]; omega) | (simp only [lenOf]; omega))) | ((first | rw [drop_cI] | rw [drop_cE] | rw [drop_cS] | rw [drop_cP] | rw [drop_cR]); rotate_left; assumption)); try simp only [go_sem, ↓reduceIte, Nat.reduceAdd, Nat.reduceEqDiff, Nat.reduceLT, Nat.reduceLeDiff, Nat.reduceBEq, Int.reduceEq, Int.reduceLT, Int.reduceLE]))
      · rw [show b.drop i = [] from List.drop_eq_nil_of_le (by omega), beforeL_nil]
        simp; omega
theorem k95 (a b : List Int) (hl : a.length < 1000000) (hl' : b.length < 1000000) (s : St) : lim tbl (.call 95 [sl cI a, sl cI b]) s = some (.ret, [.bool (beforeL a b)], s) := by
  rw [lim_call tbl_95]
  have h0 := l95 a b hl hl' s a.length 0 (by omega) (by omega)
  rw [List.drop_zero, List.drop_zero, ofNat_0] at h0
  obtain ⟨N, O, p, q⟩ := s
  rcases h0 with h0 | ⟨h0, h1⟩
  · (try simp only [go_sem, ↓reduceIte, Nat.reduceAdd, Nat.reduceEqDiff, Nat.reduceLT, Nat.reduceLeDiff, Nat.reduceBEq, Int.reduceEq, Int.reduceLT, Int.reduceLE]); (repeat ((first | rw [h0] | (rw [lt_yes]; rotate_left; (first | omega | (simp [lenOf, app]; omega) | (simp only [lenOf]; omega))) | (rw [lt_no]; rotate_left; (first | omega | (simp [lenOf, app]; omega) | (simp only [lenOf]; omega))) | (rw [idxA_at]; rotate_left; (first | omega | (simp [lenOf, app]; omega) | (simp only [lenOf]; omega))) | (rw [wr_up]; rotate_left; (first | omega | (simp [lenOf, app]; omega) | (simp only [lenOf]; omega))) | ((first | rw [drop_cI] | rw [drop_cE] | rw [drop_cS] | rw [drop_cP] | rw [drop_cR]); rotate_left; assumption)); try simp only [go_sem, ↓reduceIte, Nat.reduceAdd, Nat.reduceEqDiff, Nat.reduceLT, Nat.reduceLeDiff, Nat.reduceBEq, Int.reduceEq, Int.reduceLT, Int.reduceLE]))
  · rw [h1]
    by_cases hxy : a.length < b.length
    · simp only [hxy, decide_true]
      (try simp only [go_sem, ↓reduceIte, Nat.reduceAdd, Nat.reduceEqDiff, Nat.reduceLT, Nat.reduceLeDiff, Nat.reduceBEq, Int.reduceEq, Int.reduceLT, Int.reduceLE]); (repeat ((first | rw [h0] | (rw [lt_yes]; rotate_left; (first | omega | (simp [lenOf, app]; omega) | (simp only [lenOf]; omega))) | (rw [lt_no]; rotate_left; (first | omega | (simp [lenOf, app]; omega) | (simp only [lenOf]; omega))) | (rw [idxA_at]; rotate_left; (first | omega | (simp [lenOf, app]; omega) | (simp only [lenOf]; omega))) | (rw [wr_up]; rotate_left; (first | omega | (simp [lenOf, app]; omega) | (simp only [lenOf]; omega))) | ((first | rw [drop_cI] | rw [drop_cE] | rw [drop_cS] | rw [drop_cP] | rw [drop_cR]); rotate_left; assumption)); try simp only [go_sem, ↓reduceIte, Nat.reduceAdd, Nat.reduceEqDiff, Nat.reduceLT, Nat.reduceLeDiff, Nat.reduceBEq, Int.reduceEq, Int.reduceLT, Int.reduceLE]))
    · simp only [hxy, decide_false]
      (try simp only [go_sem, ↓reduceIte, Nat.reduceAdd, Nat.reduceEqDiff, Nat.reduceLT, Nat.reduceLeDiff, Nat.reduceBEq, Int.reduceEq, Int.reduceLT, Int.reduceLE]); (repeat ((first | rw [h0] | (rw [lt_yes]; rotate_left; (first | omega | (simp [lenOf, app]; omega) | (simp only [lenOf]; omega))) | (rw [lt_no]; rotate_left; (first | omega | (simp [lenOf, app]; omega) | (simp only [lenOf]; omega))) | (rw [idxA_at]; rotate_left; (first | omega | (simp [lenOf, app]; omega) | (simp only [lenOf]; omega))) | (rw [wr_up]; rotate_left; (first | omega | (simp [lenOf, app]; omega) | (simp only [lenOf]; omega))) | ((first | rw [drop_cI] | rw [drop_cE] | rw [drop_cS] | rw [drop_cP] | rw [drop_cR]); rotate_left; assumption)); try simp only [go_sem, ↓reduceIte, Nat.reduceAdd, Nat.reduceEqDiff, Nat.reduceLT, Nat.reduceLeDiff, Nat.reduceBEq, Int.reduceEq, Int.reduceLT, Int.reduceLE]))
def shorterL (a b : List Int) : Bool := decide (lenOf a < lenOf b) || (decide (lenOf a = lenOf b) && beforeL a b)
theorem k60 (a b : List Int) (hl : a.length < 1000000) (hl' : b.length < 1000000) (s : St) : lim tbl (.call 60 [sl cI a, sl cI b]) s = some (.ret, [.bool (shorterL a b)], s) := by
  rw [lim_call tbl_60]
  have h95 := fun s => k95 a b hl hl' s
  obtain ⟨N, O, p, q⟩ := s
  generalize hT : shorterL a b = T
  unfold shorterL at hT
  by_cases h1 : lenOf a < lenOf b
  · simp [h1] at hT; subst hT
    (try simp only [go_sem, ↓reduceIte, Nat.reduceAdd, Nat.reduceEqDiff, Nat.reduceLT, Nat.reduceLeDiff, Nat.reduceBEq, Int.reduceEq, Int.reduceLT, Int.reduceLE]); (repeat ((first | (rw [lt_yes]; rotate_left; (first | omega | (simp [lenOf, app]; omega) | (simp only [lenOf]; omega))) | (rw [lt_no]; rotate_left; (first | omega | (simp [lenOf, app]; omega) | (simp only [lenOf]; omega))) | (rw [idxA_at]; rotate_left; (first | omega | (simp [lenOf, app]; omega) | (simp only [lenOf]; omega))) | (rw [wr_up]; rotate_left; (first | omega | (simp [lenOf, app]; omega) | (simp only [lenOf]; omega))) | ((first | rw [drop_cI] | rw [drop_cE] | rw [drop_cS] | rw [drop_cP] | rw [drop_cR]); rotate_left; assumption)); try simp only [go_sem, ↓reduceIte, Nat.reduceAdd, Nat.reduceEqDiff, Nat.reduceLT, Nat.reduceLeDiff, Nat.reduceBEq, Int.reduceEq, Int.reduceLT, Int.reduceLE]))
  · by_cases h2 : lenOf a = lenOf b
    · simp [h2] at hT; subst hT
      (try simp only [go_sem, ↓reduceIte, Nat.reduceAdd, Nat.reduceEqDiff, Nat.reduceLT, Nat.reduceLeDiff, Nat.reduceBEq, Int.reduceEq, Int.reduceLT, Int.reduceLE]); (repeat ((first | rw [eqN_y h2] | simp only [h95] | (rw [lt_yes]; rotate_left; (first | omega | (simp [lenOf, app]; omega) | (simp only [lenOf]; omega))) | (rw [lt_no]; rotate_left; (first | omega | (simp [lenOf, app]; omega) | (simp only [lenOf]; omega))) | (rw [idxA_at]; rotate_left; (first | omega | (simp [lenOf, app]; omega) | (simp only [lenOf]; omega))) | (rw [wr_up]; rotate_left; (first | omega | (simp [lenOf, app]; omega) | (simp only [lenOf]; omega))) | ((first | rw [drop_cI] | rw [drop_cE] | rw [drop_cS] | rw [drop_cP] | rw [drop_cR]); rotate_left; assumption)); try simp only [go_sem, ↓reduceIte, Nat.reduceAdd, Nat.reduceEqDiff, Nat.reduceLT, Nat.reduceLeDiff, Nat.reduceBEq, Int.reduceEq, Int.reduceLT, Int.reduceLE]))
    · simp [h1, h2] at hT; subst hT
      (try simp only [go_sem, ↓reduceIte, Nat.reduceAdd, Nat.reduceEqDiff, Nat.reduceLT, Nat.reduceLeDiff, Nat.reduceBEq, Int.reduceEq, Int.reduceLT, Int.reduceLE]); (repeat ((first | rw [eqN_n h2] | (rw [lt_yes]; rotate_left; (first | omega | (simp [lenOf, app]; omega) | (simp only [lenOf]; omega))) | (rw [lt_no]; rotate_left; (first | omega | (simp [lenOf, app]; omega) | (simp only [lenOf]; omega))) | (rw [idxA_at]; rotate_left; (first | omega | (simp [lenOf, app]; omega) | (simp only [lenOf]; omega))) | (rw [wr_up]; rotate_left; (first | omega | (simp [lenOf, app]; omega) | (simp only [lenOf]; omega))) | ((first | rw [drop_cI] | rw [drop_cE] | rw [drop_cS] | rw [drop_cP] | rw [drop_cR]); rotate_left; assumption)); try simp only [go_sem, ↓reduceIte, Nat.reduceAdd, Nat.reduceEqDiff, Nat.reduceLT, Nat.reduceLeDiff, Nat.reduceBEq, Int.reduceEq, Int.reduceLT, Int.reduceLE]))

def maskN (n : Nat) : Nat := 2 * pw n - 1
def firstUp (ns : List Nat) : Nat → Nat → Int
  | 0, _ => -1
  | k + 1, i => if can ns (maskN i) then firstUp ns k (i + 1) else Int.ofNat i
theorem shl2_at {i : Nat} (h : i < 61) : shlI 2 (Int.ofNat i) = some (i64 (Int.ofNat (2 * pw i))) := shl_at (c := 2) (by omega) (by omega)
theorem pw_lt' {i : Nat} (h : i < 60) : 2 * pw i < 9223372036854775808 := by
  have h1 := pw_lt (i := i + 1) (by omega)
  unfold pw at *; rw [Nat.pow_succ] at h1; omega
theorem l45 (ns : List Nat) (w : Int) (es : List Ent) (ss : List Say) (hl : ns.length < 1000000) (ha : ∀ a ∈ ns, a < 9223372036854775808) (hS : ss.length < 60) (s : St) : ∀ (k i : Nat), i + k = ss.length → ∀ R,
   R = (if firstUp ns k i = -1 then some (.exit 0, [], s) else some (.ret, [i64 (firstUp ns k i)], s)) →
   lim tbl (.loop a45_l0 21 ⟨[1, 2, 5], [], [4]⟩ [sl cI (ints ns), .vref [i64 w, sl cE es, sl cS ss], i64 (Int.ofNat i)]) s = R := by
  intro k
  induction k with
  | zero =>
    intro i hi R hR
    simp only [firstUp, if_true] at hR
    rw [lim_loop]
    obtain ⟨N, O, p, q⟩ := s
    (try simp only [go_sem, ↓reduceIte, Nat.reduceAdd, Nat.reduceEqDiff, Nat.reduceLT, Nat.reduceLeDiff, Nat.reduceBEq, Int.reduceEq, Int.reduceLT, Int.reduceLE]); (repeat ((first | (rw [lt_yes]; rotate_left; (first | omega | (simp [lenOf, app]; omega) | (simp only [lenOf]; omega))) | (rw [lt_no]; rotate_left; (first | omega | (simp [lenOf, app]; omega) | (simp only [lenOf]; omega))) | (rw [idxA_at]; rotate_left; (first | omega | (simp [lenOf, app]; omega) | (simp only [lenOf]; omega))) | (rw [wr_up]; rotate_left; (first | omega | (simp [lenOf, app]; omega) | (simp only [lenOf]; omega))) | ((first | rw [drop_cI] | rw [drop_cE] | rw [drop_cS] | rw [drop_cP] | rw [drop_cR]); rotate_left; assumption)); try simp only [go_sem, ↓reduceIte, Nat.reduceAdd, Nat.reduceEqDiff, Nat.reduceLT, Nat.reduceLeDiff, Nat.reduceBEq, Int.reduceEq, Int.reduceLT, Int.reduceLE]))
    exact hR.symm
  | succ k ih =>
    intro i hi R hR
    have hs := shl2_at (i := i) (by omega)
    have h2 := pw_lt' (i := i) (by omega)
    have h0 := pw_pos i
    have hw : wr .i64 (Int.sub (Int.ofNat (2 * pw i)) 1) = Int.ofNat (maskN i) := by
      unfold maskN
      rw [fold_sub, wr_in] <;> simp <;> omega
    have h89 := fun s => k89 ns (maskN i) hl ha (by unfold maskN; omega) s
    rw [lim_loop]
    rw [firstUp] at hR
    cases hc : can ns (maskN i) with
    | true =>
      have h' := ih (i + 1) (by omega)
      rw [hc] at hR; simp only [if_true] at hR
      obtain ⟨N, O, p, q⟩ := s
      generalize 2 * pw i = z at hs hw
      (try simp only [go_sem, ↓reduceIte, Nat.reduceAdd, Nat.reduceEqDiff, Nat.reduceLT, Nat.reduceLeDiff, Nat.reduceBEq, Int.reduceEq, Int.reduceLT, Int.reduceLE]); (repeat ((first | (rw [wr_u]; rotate_left; (omega)) | rw [hs] | rw [hw] | simp only [h89] | simp only [hc] | (rw [lt_yes]; rotate_left; (first | omega | (simp [lenOf, app]; omega) | (simp only [lenOf]; omega))) | (rw [lt_no]; rotate_left; (first | omega | (simp [lenOf, app]; omega) | (simp only [lenOf]; omega))) | (rw [idxA_at]; rotate_left; (first | omega | (simp [lenOf, app]; omega) | (simp only [lenOf]; omega))) | (rw [wr_up]; rotate_left; (first | omega | (simp [lenOf, app]; omega) | (simp only [lenOf]; omega))) | ((first | rw [drop_cI] | rw [drop_cE] | rw [drop_cS] | rw [drop_cP] | rw [drop_cR]); rotate_left; assumption)); try simp only [go_sem, ↓reduceIte, Nat.reduceAdd, Nat.reduceEqDiff, Nat.reduceLT, Nat.reduceLeDiff, Nat.reduceBEq, Int.reduceEq, Int.reduceLT, Int.reduceLE]))
      exact h' R hR
    | false =>
      rw [hc] at hR; simp only [Bool.false_eq_true, if_false] at hR
      rw [if_neg (by simp)] at hR
      obtain ⟨N, O, p, q⟩ := s
      generalize 2 * pw i = z at hs hw
      (try simp only [go_sem, ↓reduceIte, Nat.reduceAdd, Nat.reduceEqDiff, Nat.reduceLT, Nat.reduceLeDiff, Nat.reduceBEq, Int.reduceEq, Int.reduceLT, Int.reduceLE]); (repeat ((first | (rw [wr_u]; rotate_left; (omega)) | rw [hs] | rw [hw] | simp only [h89] | simp only [hc] | (rw [lt_yes]; rotate_left; (first | omega | (simp [lenOf, app]; omega) | (simp only [lenOf]; omega))) | (rw [lt_no]; rotate_left; (first | omega | (simp [lenOf, app]; omega) | (simp only [lenOf]; omega))) | (rw [idxA_at]; rotate_left; (first | omega | (simp [lenOf, app]; omega) | (simp only [lenOf]; omega))) | (rw [wr_up]; rotate_left; (first | omega | (simp [lenOf, app]; omega) | (simp only [lenOf]; omega))) | ((first | rw [drop_cI] | rw [drop_cE] | rw [drop_cS] | rw [drop_cP] | rw [drop_cR]); rotate_left; assumption)); try simp only [go_sem, ↓reduceIte, Nat.reduceAdd, Nat.reduceEqDiff, Nat.reduceLT, Nat.reduceLeDiff, Nat.reduceBEq, Int.reduceEq, Int.reduceLT, Int.reduceLE]))
      exact hR.symm
def firstRef (ns : List Nat) (n : Nat) : Int := firstUp ns n 0
theorem k45 (S : Slate) (ns : List Nat) (hl : ns.length < 1000000) (ha : ∀ a ∈ ns, a < 9223372036854775808) (hS : S.ss.length < 60) (s : St) : lim tbl (.call 45 [vSl S, sl cI (ints ns)]) s = some (.ret, [i64 (firstRef ns (lenOf S.ss))], s) := by
  obtain ⟨w, es, ss⟩ := S
  rw [lim_call tbl_45]
  have h0 := l45 ns w es ss hl ha hS s ss.length 0 (by omega) _ rfl
  rw [ofNat_0] at h0
  change _ = (if firstRef ns (lenOf ss) = -1 then _ else some (_, [i64 (firstRef ns (lenOf ss))], _)) at h0
  simp only
  obtain ⟨N, O, p, q⟩ := s
  by_cases hf : firstRef ns (lenOf ss) = -1
  · rw [if_pos hf] at h0
    rw [hf]
    (try simp only [go_sem, ↓reduceIte, Nat.reduceAdd, Nat.reduceEqDiff, Nat.reduceLT, Nat.reduceLeDiff, Nat.reduceBEq, Int.reduceEq, Int.reduceLT, Int.reduceLE]); (repeat ((first | rw [h0] | (rw [lt_yes]; rotate_left; (first | omega | (simp [lenOf, app]; omega) | (simp only [lenOf]; omega))) | (rw [lt_no]; rotate_left; (first | omega | (simp [lenOf, app]; omega) | (simp only [lenOf]; omega))) | (rw [idxA_at]; rotate_left; (first | omega | (simp [lenOf, app]; omega) | (simp only [lenOf]; omega))) | (rw [wr_up]; rotate_left; (first | omega | (simp [lenOf, app]; omega) | (simp only [lenOf]; omega))) | ((first | rw [drop_cI] | rw [drop_cE] | rw [drop_cS] | rw [drop_cP] | rw [drop_cR]); rotate_left; assumption)); try simp only [go_sem, ↓reduceIte, Nat.reduceAdd, Nat.reduceEqDiff, Nat.reduceLT, Nat.reduceLeDiff, Nat.reduceBEq, Int.reduceEq, Int.reduceLT, Int.reduceLE]))
  · rw [if_neg hf] at h0
    generalize firstRef ns (lenOf ss) = x at h0 ⊢
    (try simp only [go_sem, ↓reduceIte, Nat.reduceAdd, Nat.reduceEqDiff, Nat.reduceLT, Nat.reduceLeDiff, Nat.reduceBEq, Int.reduceEq, Int.reduceLT, Int.reduceLE]); (repeat ((first | rw [h0] | (rw [lt_yes]; rotate_left; (first | omega | (simp [lenOf, app]; omega) | (simp only [lenOf]; omega))) | (rw [lt_no]; rotate_left; (first | omega | (simp [lenOf, app]; omega) | (simp only [lenOf]; omega))) | (rw [idxA_at]; rotate_left; (first | omega | (simp [lenOf, app]; omega) | (simp only [lenOf]; omega))) | (rw [wr_up]; rotate_left; (first | omega | (simp [lenOf, app]; omega) | (simp only [lenOf]; omega))) | ((first | rw [drop_cI] | rw [drop_cE] | rw [drop_cS] | rw [drop_cP] | rw [drop_cR]); rotate_left; assumption)); try simp only [go_sem, ↓reduceIte, Nat.reduceAdd, Nat.reduceEqDiff, Nat.reduceLT, Nat.reduceLeDiff, Nat.reduceBEq, Int.reduceEq, Int.reduceLT, Int.reduceLE]))
def leaveUp (ns : List Nat) (F : Nat) : Nat → Nat → List Int → List Int
  | 0, _, best => best
  | k + 1, b, best => leaveUp ns F k (b + 1) (if shorterL (bitsOf b) best && can ns (bsub F b) then bitsOf b else best)
theorem bsub_le (a b : Nat) : bsub a b ≤ a := by unfold bsub; exact Nat.and_le_left
theorem l44 (ns : List Nat) (w : Int) (es : List Ent) (ss : List Say) (hl : ns.length < 1000000) (ha : ∀ a ∈ ns, a < 9223372036854775808) (hS : ss.length < 20) (s : St) : ∀ (k b : Nat) (best : List Int), b + k = fullN (lenOf ss) + 1 → best.length ≤ 60 →
   lim tbl (.loop a44_l0 32 ⟨[1, 2, 5, 6], [5], []⟩ [sl cI (ints ns), .vref [i64 w, sl cE es, sl cS ss], sl cI best, i64 (Int.ofNat b)]) s = some (.exit 0, [sl cI (leaveUp ns (fullN (lenOf ss)) k b best)], s) := by
  intro k
  have h59 := fun s => k59 ⟨w, es, ss⟩ (by simp only; omega) s
  simp only at h59
  have hF : fullN (lenOf ss) < 1000000 := by
    have : pw (lenOf ss) ≤ pw 19 := Nat.pow_le_pow_right (by omega) (by simp only [lenOf]; omega)
    have h2 : pw 19 = 524288 := by rfl
    unfold fullN; omega
  have hp60 : pw 60 = 1152921504606846976 := by rfl
  generalize fullN (lenOf ss) = F at h59 hF
  induction k with
  | zero =>
    intro b best hb hB
    rw [leaveUp, lim_loop]
    obtain ⟨N, O, p, q⟩ := s
    (try simp only [go_sem, ↓reduceIte, Nat.reduceAdd, Nat.reduceEqDiff, Nat.reduceLT, Nat.reduceLeDiff, Nat.reduceBEq, Int.reduceEq, Int.reduceLT, Int.reduceLE]); (repeat ((first | simp only [h59] | (rw [le_no]; rotate_left; (omega)) | (rw [lt_yes]; rotate_left; (first | omega | (simp [lenOf, app]; omega) | (simp only [lenOf]; omega))) | (rw [lt_no]; rotate_left; (first | omega | (simp [lenOf, app]; omega) | (simp only [lenOf]; omega))) | (rw [idxA_at]; rotate_left; (first | omega | (simp [lenOf, app]; omega) | (simp only [lenOf]; omega))) | (rw [wr_up]; rotate_left; (first | omega | (simp [lenOf, app]; omega) | (simp only [lenOf]; omega))) | ((first | rw [drop_cI] | rw [drop_cE] | rw [drop_cS] | rw [drop_cP] | rw [drop_cR]); rotate_left; assumption)); try simp only [go_sem, ↓reduceIte, Nat.reduceAdd, Nat.reduceEqDiff, Nat.reduceLT, Nat.reduceLeDiff, Nat.reduceBEq, Int.reduceEq, Int.reduceLT, Int.reduceLE]))
  | succ k ih =>
    intro b best hb hB
    have h61 := fun s => k61 b (by omega) s
    have h60 := fun s => k60 (bitsOf b) best (by have := bitsOf_len b; omega) (by omega) s
    have hsub : bitsA .andNot .i64 (Int.ofNat F) (Int.ofNat b) = some (i64 (Int.ofNat (bsub F b))) := bits_sub (by omega) (by omega)
    have h89 := fun s => k89 ns (bsub F b) hl ha (by have := bsub_le F b; omega) s
    rw [leaveUp, lim_loop]
    cases h1 : shorterL (bitsOf b) best with
    | false =>
      have h' := ih (b + 1) best (by omega) hB
      simp only [Bool.false_and, Bool.false_eq_true, if_false]
      generalize hR : some (_, _, _) = R at h' ⊢
      obtain ⟨N, O, p, q⟩ := s
      (try simp only [go_sem, ↓reduceIte, Nat.reduceAdd, Nat.reduceEqDiff, Nat.reduceLT, Nat.reduceLeDiff, Nat.reduceBEq, Int.reduceEq, Int.reduceLT, Int.reduceLE]); (repeat ((first | simp only [h59] | (rw [le_yes]; rotate_left; (omega)) | simp only [h61] | simp only [h60] | simp only [h1] | (rw [lt_yes]; rotate_left; (first | omega | (simp [lenOf, app]; omega) | (simp only [lenOf]; omega))) | (rw [lt_no]; rotate_left; (first | omega | (simp [lenOf, app]; omega) | (simp only [lenOf]; omega))) | (rw [idxA_at]; rotate_left; (first | omega | (simp [lenOf, app]; omega) | (simp only [lenOf]; omega))) | (rw [wr_up]; rotate_left; (first | omega | (simp [lenOf, app]; omega) | (simp only [lenOf]; omega))) | ((first | rw [drop_cI] | rw [drop_cE] | rw [drop_cS] | rw [drop_cP] | rw [drop_cR]); rotate_left; assumption)); try simp only [go_sem, ↓reduceIte, Nat.reduceAdd, Nat.reduceEqDiff, Nat.reduceLT, Nat.reduceLeDiff, Nat.reduceBEq, Int.reduceEq, Int.reduceLT, Int.reduceLE]))
      exact h'
    | true =>
      cases h2 : can ns (bsub F b) with
      | false =>
        have h' := ih (b + 1) best (by omega) hB
        simp only [Bool.true_and, Bool.false_eq_true, if_false]
        generalize hR : some (_, _, _) = R at h' ⊢
        obtain ⟨N, O, p, q⟩ := s
        (try simp only [go_sem, ↓reduceIte, Nat.reduceAdd, Nat.reduceEqDiff, Nat.reduceLT, Nat.reduceLeDiff, Nat.reduceBEq, Int.reduceEq, Int.reduceLT, Int.reduceLE]); (repeat ((first | simp only [h59] | (rw [le_yes]; rotate_left; (omega)) | simp only [h61] | simp only [h60] | simp only [h1] | rw [hsub] | simp only [h89] | simp only [h2] | (rw [lt_yes]; rotate_left; (first | omega | (simp [lenOf, app]; omega) | (simp only [lenOf]; omega))) | (rw [lt_no]; rotate_left; (first | omega | (simp [lenOf, app]; omega) | (simp only [lenOf]; omega))) | (rw [idxA_at]; rotate_left; (first | omega | (simp [lenOf, app]; omega) | (simp only [lenOf]; omega))) | (rw [wr_up]; rotate_left; (first | omega | (simp [lenOf, app]; omega) | (simp only [lenOf]; omega))) | ((first | rw [drop_cI] | rw [drop_cE] | rw [drop_cS] | rw [drop_cP] | rw [drop_cR]); rotate_left; assumption)); try simp only [go_sem, ↓reduceIte, Nat.reduceAdd, Nat.reduceEqDiff, Nat.reduceLT, Nat.reduceLeDiff, Nat.reduceBEq, Int.reduceEq, Int.reduceLT, Int.reduceLE]))
        exact h'
      | true =>
        have h' := ih (b + 1) (bitsOf b) (by omega) (bitsOf_len b)
        simp only [Bool.true_and, if_true]
        generalize hR : some (_, _, _) = R at h' ⊢
        obtain ⟨N, O, p, q⟩ := s
        (try simp only [go_sem, ↓reduceIte, Nat.reduceAdd, Nat.reduceEqDiff, Nat.reduceLT, Nat.reduceLeDiff, Nat.reduceBEq, Int.reduceEq, Int.reduceLT, Int.reduceLE]); (repeat ((first | simp only [h59] | (rw [le_yes]; rotate_left; (omega)) | simp only [h61] | simp only [h60] | simp only [h1] | rw [hsub] | simp only [h89] | simp only [h2] | (rw [lt_yes]; rotate_left; (first | omega | (simp [lenOf, app]; omega) | (simp only [lenOf]; omega))) | (rw [lt_no]; rotate_left; (first | omega | (simp [lenOf, app]; omega) | (simp only [lenOf]; omega))) | (rw [idxA_at]; rotate_left; (first | omega | (simp [lenOf, app]; omega) | (simp only [lenOf]; omega))) | (rw [wr_up]; rotate_left; (first | omega | (simp [lenOf, app]; omega) | (simp only [lenOf]; omega))) | ((first | rw [drop_cI] | rw [drop_cE] | rw [drop_cS] | rw [drop_cP] | rw [drop_cR]); rotate_left; assumption)); try simp only [go_sem, ↓reduceIte, Nat.reduceAdd, Nat.reduceEqDiff, Nat.reduceLT, Nat.reduceLeDiff, Nat.reduceBEq, Int.reduceEq, Int.reduceLT, Int.reduceLE]))
        exact h'
def leaveRef (ns : List Nat) (n : Nat) : List Int := leaveUp ns (fullN n) (fullN n + 1) 0 (bitsOf (fullN n))
theorem k44 (S : Slate) (ns : List Nat) (hl : ns.length < 1000000) (ha : ∀ a ∈ ns, a < 9223372036854775808) (hS : S.ss.length < 20) (s : St) : lim tbl (.call 44 [vSl S, sl cI (ints ns)]) s = some (.ret, [sl cI (leaveRef ns (lenOf S.ss))], s) := by
  obtain ⟨w, es, ss⟩ := S
  rw [lim_call tbl_44]
  have h0 := l44 ns w es ss hl ha hS s (fullN (lenOf ss) + 1) 0 (bitsOf (fullN (lenOf ss))) (by omega) (bitsOf_len _)
  rw [ofNat_0] at h0
  change _ = some (_, [sl cI (leaveRef ns (lenOf ss))], _) at h0
  simp only at hS
  have h59 := fun s => k59 ⟨w, es, ss⟩ (by simp only; omega) s
  have hF : fullN (lenOf ss) < 1000000 := by
    have : pw (lenOf ss) ≤ pw 19 := Nat.pow_le_pow_right (by omega) (by simp only [lenOf]; omega)
    have h2 : pw 19 = 524288 := by rfl
    unfold fullN; omega
  have hp60 : pw 60 = 1152921504606846976 := by rfl
  have h61 := fun s => k61 (fullN (lenOf ss)) (by omega) s
  simp only at h59 ⊢
  obtain ⟨N, O, p, q⟩ := s
  (try simp only [go_sem, ↓reduceIte, Nat.reduceAdd, Nat.reduceEqDiff, Nat.reduceLT, Nat.reduceLeDiff, Nat.reduceBEq, Int.reduceEq, Int.reduceLT, Int.reduceLE]); (repeat ((first | simp only [h59] | simp only [h61] | rw [h0] | (rw [lt_yes]; rotate_left; (first | omega | (simp [lenOf, app]; omega) | (simp only [lenOf]; omega))) | (rw [lt_no]; rotate_left; (first | omega | (simp [lenOf, app]; omega) | (simp only [lenOf]; omega))) | (rw [idxA_at]; rotate_left; (first | omega | (simp [lenOf, app]; omega) | (simp only [lenOf]; omega))) | (rw [wr_up]; rotate_left; (first | omega | (simp [lenOf, app]; omega) | (simp only [lenOf]; omega))) | ((first | rw [drop_cI] | rw [drop_cE] | rw [drop_cS] | rw [drop_cP] | rw [drop_cR]); rotate_left; assumption)); try simp only [go_sem, ↓reduceIte, Nat.reduceAdd, Nat.reduceEqDiff, Nat.reduceLT, Nat.reduceLeDiff, Nat.reduceBEq, Int.reduceEq, Int.reduceLT, Int.reduceLE]))

end Go.Proofs.Ytlhfeiacigmliaa

/- The wash-house's soap: what the functions compute: what all women are owed, as the program keeps it. -/
namespace Go.Proofs.Ytlhfeiacigmliaa
open Go
set_option maxRecDepth 10000

def c6 (a : Nat → Int) : List AVal := [i64 (a 0), i64 (a 1), i64 (a 2), i64 (a 3), i64 (a 4), i64 (a 5)]
def c6t (a : Nat → Int) (j : Nat) : List AVal := (c6 a).drop (j + 1)
def put (a : Nat → Int) (j : Nat) (x : Int) : Nat → Int := fun i => if i = j then x else a i
@[go_sem] theorem storeK_c6 (s : St) (v : AVal) (a : Nat → Int) : storeK 6 s v false (c6 a) = unitS (storeN s v (c6 a)) := (rfl)
@[go_sem] theorem frLen_c6 (a : Nat → Int) : frLen (c6 a) = 6 := (rfl)
@[go_sem] theorem norms_c6 (a : Nat → Int) : norms (c6 a) = c6 a := (rfl)
@[go_sem] theorem weaks_c6 (a : Nat → Int) : weaks (c6 a) = some (c6 a) := (rfl)
theorem drop_c6 {j : Nat} (a : Nat → Int) (h : j < 6) : List.drop (Nat.mul j 1) (c6 a) = i64 (a j) :: c6t a j := by
  rw [show Nat.mul j 1 = j from Nat.mul_one j]
  match j, h with
  | 0, _ | 1, _ | 2, _ | 3, _ | 4, _ | 5, _ => rfl
@[go_sem] theorem look_c6 (s : St) (a : Nat → Int) : lookN s (.vref (c6 a)) 6 = some (c6 a) := (rfl)
@[go_sem] theorem lookP_c6 (a : Nat → Int) : lookP (some (.cells (c6 a))) 0 6 = some (c6 a) := (rfl)
theorem lookP_take {w : Nat} (a : Nat → Int) (h : w ≤ 6) : lookP (some (.cells (c6 a))) 0 (Nat.mul w 1) = some ((c6 a).take w) := by
  rw [show Nat.mul w 1 = w from Nat.mul_one w]
  simp [lookP, c6, h]
section
variable (s : St) (b off : Nat) (a b' c' d e f g h : AVal) (l : List AVal)
@[go_sem] theorem storeP_6_c6 (x : Nat → Int) : storeP (some (.cells [a, b', c', d, e, f])) s b 0 (c6 x) = some (s.set b (.cells (c6 x))) := by simp [storeP, splice, c6]
@[go_sem] theorem storeP_c6_c6 (x y : Nat → Int) : storeP (some (.cells (c6 y))) s b 0 (c6 x) = some (s.set b (.cells (c6 x))) := by simp [storeP, splice, c6]
theorem nthO_c6 {j : Nat} (x : Nat → Int) (h : j < 6) : nthO (some (.cells (c6 x))) (na 0 (Nat.mul j 1)) = some (i64 (x j)) := by
  rw [show na 0 (Nat.mul j 1) = j by simp [na]]
  match j, h with
  | 0, _ | 1, _ | 2, _ | 3, _ | 4, _ | 5, _ => rfl
theorem storeP_c6_1 {j : Nat} (x : Nat → Int) (n : Int) (h : j < 6) : storeP (some (.cells (c6 x))) s b (na 0 (Nat.mul j 1)) [i64 n] = some (s.set b (.cells (c6 (put x j n)))) := by
  rw [show na 0 (Nat.mul j 1) = j by simp [na]]
  match j, h with
  | 0, _ | 1, _ | 2, _ | 3, _ | 4, _ | 5, _ => rfl
end

/-- One block under others. -/
def Under (N : Nat) (O : List AObj) (o : AObj) (M : Nat) (Q : List AObj) : Prop := ∃ l, M = N + 1 + l.length ∧ Q = l ++ o :: O
theorem Under.init (N : Nat) (O : List AObj) (o : AObj) : Under N O o (na N 1) (o :: O) := ⟨[], rfl, rfl⟩
theorem Under.push {N : Nat} {O : List AObj} {o : AObj} {M : Nat} {Q : List AObj} (h : Under N O o M Q) (o1 : AObj) : Under N O o (na M 1) (o1 :: Q) := by
  obtain ⟨l, h1, h2⟩ := h
  exact ⟨o1 :: l, by simp [na]; omega, by simp [h2]⟩
theorem Under.get {N : Nat} {O : List AObj} {o : AObj} {M : Nat} {Q : List AObj} (h : Under N O o M Q) (p : Nat) (q : Nat → Nat) : St.get ⟨M, Q, p, q⟩ N = some o := by
  obtain ⟨l, h1, h2⟩ := h
  subst h1 h2
  simp only [St.get]
  rw [if_pos (by omega), List.getElem?_append_right (by omega)]
  simp
theorem Under.get1 {N : Nat} {O : List AObj} {o : AObj} {M : Nat} {Q : List AObj} (h : Under N O o M Q) (o1 : AObj) (p : Nat) (q : Nat → Nat) : St.get ⟨na M 1, o1 :: Q, p, q⟩ N = some o := (h.push o1).get p q
theorem Under.set {N : Nat} {O : List AObj} {o : AObj} {M : Nat} {Q : List AObj} (h : Under N O o M Q) (o' : AObj) : ∃ Q', Under N O o' M Q' ∧ (∀ p q, St.set ⟨M, Q, p, q⟩ N o' = ⟨M, Q', p, q⟩) ∧ ∀ o1 p q, St.set ⟨na M 1, o1 :: Q, p, q⟩ N o' = ⟨na M 1, o1 :: Q', p, q⟩ := by
  obtain ⟨l, h1, h2⟩ := h
  subst h1 h2
  refine ⟨l ++ o' :: O, ⟨l, rfl, rfl⟩, fun p q => ?_, fun o1 p q => ?_⟩
  · simp only [St.set, St.mk.injEq, and_self, and_true, true_and]
    rw [show N + 1 + l.length - 1 - N = l.length by omega, List.set_append_right _ _ (by omega)]
    simp
  · simp only [St.set, St.mk.injEq, and_self, and_true, true_and, na]
    rw [show N + 1 + l.length + 1 - 1 - N = l.length + 1 by omega, List.set_cons_succ, List.set_append_right _ _ (by omega)]
    simp
theorem Under.old {N : Nat} {O : List AObj} {o : AObj} {M : Nat} {Q : List AObj} (h : Under N O o M Q) (p : Nat) (q : Nat → Nat) : Ytlhfeiacigmliaa.old ⟨N, O, p, q⟩ ⟨M, Q, p, q⟩ = true := by
  obtain ⟨l, h1, h2⟩ := h
  subst h2
  have := old_of (N := N) (O := O) (p := p) (q := q) (M := M) (l := l ++ [o]) (p' := p) (by simp; omega)
  simpa using this

/-- The women of the entries. -/
def OkF (es : List Ent) : Prop := ∀ e ∈ es, ∃ f t : Nat, f < 6 ∧ t < 6 ∧ e.fr = Int.ofNat f ∧ e.to = Int.ofNat t
/-- What all women are owed. -/
def owV (es : List Ent) (L : List Int) : Nat → Int := fun j => owedUp 0 (Int.ofNat j) es L
theorem l109 (es : List Ent) (L : List Int) (hE : es.length < 1000000) (hL : L.length = es.length) (hF : OkF es) (N : Nat) (O : List AObj) (p : Nat) (q : Nat → Nat) : ∀ (k i : Nat) (a : Nat → Int) (M : Nat) (Q : List AObj), i + k = es.length → Under N O (.cells (c6 a)) M Q →
   ∃ M' Q', Under N O (.cells (c6 fun j => owedUp (a j) (Int.ofNat j) (es.drop i) (L.drop i))) M' Q' ∧
   lim tbl (.loop a109_l0 37 ⟨[1, 4, 8, 9, 10], [4], []⟩ [sl cI L, .ptr N 0, sl cE es, i64 (Int.ofNat (lenOf es)), i64 (Int.ofNat i)]) ⟨M, Q, p, q⟩ = some (.exit 0, [.ptr N 0], ⟨M', Q', p, q⟩) := by
  intro k
  induction k with
  | zero =>
    intro i a M Q hi hU
    refine ⟨M, Q, ?_, ?_⟩
    · rw [List.drop_eq_nil_of_le (by omega)]; exact hU
    · rw [lim_loop]
      (try simp only [go_sem, ↓reduceIte, Nat.reduceAdd, Nat.reduceEqDiff, Nat.reduceLT, Nat.reduceLeDiff, Nat.reduceBEq, Int.reduceEq, Int.reduceLT, Int.reduceLE]); (repeat ((first | (rw [lt_yes]; rotate_left; (first | omega | (simp [lenOf, app]; omega) | (simp only [lenOf]; omega))) | (rw [lt_no]; rotate_left; (first | omega | (simp [lenOf, app]; omega) | (simp only [lenOf]; omega))) | (rw [idxA_at]; rotate_left; (first | omega | (simp [lenOf, app]; omega) | (simp only [lenOf]; omega))) | (rw [wr_up]; rotate_left; (first | omega | (simp [lenOf, app]; omega) | (simp only [lenOf]; omega))) | ((first | rw [drop_cI] | rw [drop_cE] | rw [drop_cS] | rw [drop_cP] | rw [drop_cR]); rotate_left; assumption)); try simp only [go_sem, ↓reduceIte, Nat.reduceAdd, Nat.reduceEqDiff, Nat.reduceLT, Nat.reduceLeDiff, Nat.reduceBEq, Int.reduceEq, Int.reduceLT, Int.reduceLE]))
  | succ k ih =>
    intro i a M Q hi hU
    have hlt : i < es.length := by omega
    obtain ⟨e, he, hd⟩ := getElem_drop hlt
    obtain ⟨x, hx, hd'⟩ := getElem_drop (show i < L.length by omega)
    obtain ⟨f, t, hf, ht, h1, h2⟩ := hF e (List.mem_of_getElem? he)
    obtain ⟨fr, to, ⟨lo, hi'⟩⟩ := e
    simp only at h1 h2
    subst h1 h2
    rw [hd, hd']
    have g1 := hU.get1 (.cells [i64 (Int.ofNat f), i64 (Int.ofNat t), i64 lo, i64 hi']) p q
    obtain ⟨Q1, hU1, _, s1⟩ := hU.set (.cells (c6 (put a f (wr .i64 (Int.add (a f) x)))))
    have g2 := hU1.get1 (.cells [i64 (Int.ofNat f), i64 (Int.ofNat t), i64 lo, i64 hi']) p q
    obtain ⟨Q2, hU2, _, s2⟩ := hU1.set (.cells (c6 (put (put a f (wr .i64 (Int.add (a f) x))) t (wr .i64 (Int.sub (put a f (wr .i64 (Int.add (a f) x)) t) x)))))
    obtain ⟨M', Q', hU', h'⟩ := ih (i + 1) _ _ _ (by omega) (hU2.push (.cells [i64 (Int.ofNat f), i64 (Int.ofNat t), i64 lo, i64 hi']))
    refine ⟨M', Q', ?_, ?_⟩
    · have : (fun j => owedUp (put (put a f (wr .i64 (Int.add (a f) x))) t (wr .i64 (Int.sub (put a f (wr .i64 (Int.add (a f) x)) t) x)) j) (Int.ofNat j) (es.drop (i + 1)) (L.drop (i + 1)))
        = (fun j => owedUp (a j) (Int.ofNat j) (⟨Int.ofNat f, Int.ofNat t, ⟨lo, hi'⟩⟩ :: es.drop (i + 1)) (x :: L.drop (i + 1))) := by
        funext j
        rw [owedUp]
        simp only [put, Int.ofNat.injEq, fold_add, fold_sub]
        congr 1
        by_cases hj1 : j = t
        · subst hj1
          by_cases hj2 : j = f
          · subst hj2; simp
          · simp [hj2, Ne.symm hj2]
        · by_cases hj2 : j = f
          · subst hj2; simp [hj1, Ne.symm hj1]
          · simp [hj1, hj2, Ne.symm hj1, Ne.symm hj2]
      rw [← this]; exact hU'
    · rw [lim_loop]
      generalize hR : some (_, _, _) = R at h' ⊢
      have n1 := nthO_c6 a hf
      have n2 := nthO_c6 (put a f (wr .i64 (Int.add (a f) x))) ht
      have p1 := fun s b => storeP_c6_1 s b a (wr .i64 (Int.add (a f) x)) hf
      have p2 := fun s b => storeP_c6_1 s b (put a f (wr .i64 (Int.add (a f) x))) (wr .i64 (Int.sub (put a f (wr .i64 (Int.add (a f) x)) t) x)) ht
      (try simp only [go_sem, ↓reduceIte, Nat.reduceAdd, Nat.reduceEqDiff, Nat.reduceLT, Nat.reduceLeDiff, Nat.reduceBEq, Int.reduceEq, Int.reduceLT, Int.reduceLE]); (repeat ((first | rw [g1] | rw [n1] | rw [p1] | rw [s1] | rw [g2] | rw [n2] | rw [p2] | rw [s2] | (rw [lt_yes]; rotate_left; (first | omega | (simp [lenOf, app]; omega) | (simp only [lenOf]; omega))) | (rw [lt_no]; rotate_left; (first | omega | (simp [lenOf, app]; omega) | (simp only [lenOf]; omega))) | (rw [idxA_at]; rotate_left; (first | omega | (simp [lenOf, app]; omega) | (simp only [lenOf]; omega))) | (rw [wr_up]; rotate_left; (first | omega | (simp [lenOf, app]; omega) | (simp only [lenOf]; omega))) | ((first | rw [drop_cI] | rw [drop_cE] | rw [drop_cS] | rw [drop_cP] | rw [drop_cR]); rotate_left; assumption)); try simp only [go_sem, ↓reduceIte, Nat.reduceAdd, Nat.reduceEqDiff, Nat.reduceLT, Nat.reduceLeDiff, Nat.reduceBEq, Int.reduceEq, Int.reduceLT, Int.reduceLE]))
      exact h'
theorem k109 (S : Slate) (L : List Int) (hE : S.es.length < 1000000) (hL : L.length = S.es.length) (hF : OkF S.es) (s : St) : lim tbl (.call 109 [vSl S, sl cI L]) s = some (.ret, [.agg (c6 (owV S.es L))], s) := by
  obtain ⟨w, es, ss⟩ := S
  rw [lim_call tbl_109]; obtain ⟨N, O, p, q⟩ := s
  obtain ⟨M, Q, hU, h0⟩ := l109 es L hE hL hF N O p q es.length 0 (fun _ => 0) (na N 1) (.cells (c6 fun _ => 0) :: O) (by omega) (Under.init ..)
  rw [ofNat_0] at h0
  rw [List.drop_zero, List.drop_zero] at hU
  change Under _ _ (.cells (c6 (owV es L))) _ _ at hU
  obtain ⟨Q1, hU1, s1, _⟩ := hU.set (.cells (c6 (owV es L)))
  have g0 := hU.get p q
  have g1 := hU1.get p q
  have ho := hU1.old p q
  have hz : c6 (fun _ => 0) = [i64 0, i64 0, i64 0, i64 0, i64 0, i64 0] := rfl
  rw [hz] at h0
  simp only
  (try simp only [go_sem, ↓reduceIte, Nat.reduceAdd, Nat.reduceEqDiff, Nat.reduceLT, Nat.reduceLeDiff, Nat.reduceBEq, Int.reduceEq, Int.reduceLT, Int.reduceLE]); (repeat ((first | rw [h0] | rw [g0] | rw [s1] | rw [g1] | rw [ho] | (rw [lt_yes]; rotate_left; (first | omega | (simp [lenOf, app]; omega) | (simp only [lenOf]; omega))) | (rw [lt_no]; rotate_left; (first | omega | (simp [lenOf, app]; omega) | (simp only [lenOf]; omega))) | (rw [idxA_at]; rotate_left; (first | omega | (simp [lenOf, app]; omega) | (simp only [lenOf]; omega))) | (rw [wr_up]; rotate_left; (first | omega | (simp [lenOf, app]; omega) | (simp only [lenOf]; omega))) | ((first | rw [drop_cI] | rw [drop_cE] | rw [drop_cS] | rw [drop_cP] | rw [drop_cR]); rotate_left; assumption)); try simp only [go_sem, ↓reduceIte, Nat.reduceAdd, Nat.reduceEqDiff, Nat.reduceLT, Nat.reduceLeDiff, Nat.reduceBEq, Int.reduceEq, Int.reduceLT, Int.reduceLE]))
end Go.Proofs.Ytlhfeiacigmliaa

/- The wash-house's soap: what the functions compute: what is played, and the truths of the program. -/
namespace Go.Proofs.Ytlhfeiacigmliaa
open Go
set_option maxRecDepth 10000

@[go_sem] theorem sl_nil {α : Type} (f : α → List AVal) : sl f [] = .vsl [] 0 .no := (rfl)
@[go_sem] theorem lenOf_nil {α : Type} : lenOf ([] : List α) = 0 := (rfl)

def hasI (L : List Int) (v : Int) : Bool := L.any fun x => decide (v = x)
theorem l132 (L : List Int) (v : Int) (hl : L.length < 1000000) (s : St) : ∀ (k i : Nat), i + k = L.length →
   (hasI (L.drop i) v = false ∧ lim tbl (.loop a132_l0 19 ⟨[0, 1, 7, 8], [], [4]⟩ [sl cI L, i64 v, i64 (Int.ofNat (lenOf L)), i64 (Int.ofNat i)]) s = some (.exit 0, [], s)) ∨
   (hasI (L.drop i) v = true ∧ ∃ j : Nat, lim tbl (.loop a132_l0 19 ⟨[0, 1, 7, 8], [], [4]⟩ [sl cI L, i64 v, i64 (Int.ofNat (lenOf L)), i64 (Int.ofNat i)]) s = some (.ret, [i64 (Int.ofNat j)], s)) := by
  intro k
  induction k with
  | zero =>
    intro i hi
    left
    refine ⟨by rw [List.drop_eq_nil_of_le (by omega)]; rfl, ?_⟩
    rw [lim_loop]; obtain ⟨N, O, p, q⟩ := s
    (try simp only [go_sem, ↓reduceIte, Nat.reduceAdd, Nat.reduceEqDiff, Nat.reduceLT, Nat.reduceLeDiff, Nat.reduceBEq, Int.reduceEq, Int.reduceLT, Int.reduceLE]); (repeat ((first | (rw [lt_yes]; rotate_left; (first | omega | (simp [lenOf, app]; omega) | (simp only [lenOf]; omega))) | (rw [lt_no]; rotate_left; (first | omega | (simp [lenOf, app]; omega) | (simp only [lenOf]; omega))) | (rw [idxA_at]; rotate_left; (first | omega | (simp [lenOf, app]; omega) | (simp only [lenOf]; omega))) | (rw [wr_up]; rotate_left; (first | omega | (simp [lenOf, app]; omega) | (simp only [lenOf]; omega))) | ((first | rw [drop_cI] | rw [drop_cE] | rw [drop_cS] | rw [drop_cP] | rw [drop_cR]); rotate_left; assumption)); try simp only [go_sem, ↓reduceIte, Nat.reduceAdd, Nat.reduceEqDiff, Nat.reduceLT, Nat.reduceLeDiff, Nat.reduceBEq, Int.reduceEq, Int.reduceLT, Int.reduceLE]))
  | succ k ih =>
    intro i hi
    have hlt : i < L.length := by omega
    obtain ⟨x, hx, hd⟩ := getElem_drop hlt
    rw [hd]
    by_cases hv : v = x
    · right
      refine ⟨by simp [hasI, hv], i, ?_⟩
      rw [lim_loop]; obtain ⟨N, O, p, q⟩ := s
      (try simp only [go_sem, ↓reduceIte, Nat.reduceAdd, Nat.reduceEqDiff, Nat.reduceLT, Nat.reduceLeDiff, Nat.reduceBEq, Int.reduceEq, Int.reduceLT, Int.reduceLE]); (repeat ((first | rw [eq_y hv] | (rw [lt_yes]; rotate_left; (first | omega | (simp [lenOf, app]; omega) | (simp only [lenOf]; omega))) | (rw [lt_no]; rotate_left; (first | omega | (simp [lenOf, app]; omega) | (simp only [lenOf]; omega))) | (rw [idxA_at]; rotate_left; (first | omega | (simp [lenOf, app]; omega) | (simp only [lenOf]; omega))) | (rw [wr_up]; rotate_left; (first | omega | (simp [lenOf, app]; omega) | (simp only [lenOf]; omega))) | ((first | rw [drop_cI] | rw [drop_cE] | rw [drop_cS] | rw [drop_cP] | rw [drop_cR]); rotate_left; assumption)); try simp only [go_sem, ↓reduceIte, Nat.reduceAdd, Nat.reduceEqDiff, Nat.reduceLT, Nat.reduceLeDiff, Nat.reduceBEq, Int.reduceEq, Int.reduceLT, Int.reduceLE]))
    · have he : hasI (x :: L.drop (i + 1)) v = hasI (L.drop (i + 1)) v := by simp [hasI, hv]
      have hs : lim tbl (.loop a132_l0 19 ⟨[0, 1, 7, 8], [], [4]⟩ [sl cI L, i64 v, i64 (Int.ofNat (lenOf L)), i64 (Int.ofNat i)]) s = lim tbl (.loop a132_l0 19 ⟨[0, 1, 7, 8], [], [4]⟩ [sl cI L, i64 v, i64 (Int.ofNat (lenOf L)), i64 (Int.ofNat (i + 1))]) s := by
        rw [lim_loop]
        generalize hR : lim tbl (.loop a132_l0 19 ⟨[0, 1, 7, 8], [], [4]⟩ [sl cI L, i64 v, i64 (Int.ofNat (lenOf L)), i64 (Int.ofNat (i + 1))]) s = R
        obtain ⟨N, O, p, q⟩ := s
        (try simp only [go_sem, ↓reduceIte, Nat.reduceAdd, Nat.reduceEqDiff, Nat.reduceLT, Nat.reduceLeDiff, Nat.reduceBEq, Int.reduceEq, Int.reduceLT, Int.reduceLE]); (repeat ((first | rw [eq_n hv] | (rw [lt_yes]; rotate_left; (first | omega | (simp [lenOf, app]; omega) | (simp only [lenOf]; omega))) | (rw [lt_no]; rotate_left; (first | omega | (simp [lenOf, app]; omega) | (simp only [lenOf]; omega))) | (rw [idxA_at]; rotate_left; (first | omega | (simp [lenOf, app]; omega) | (simp only [lenOf]; omega))) | (rw [wr_up]; rotate_left; (first | omega | (simp [lenOf, app]; omega) | (simp only [lenOf]; omega))) | ((first | rw [drop_cI] | rw [drop_cE] | rw [drop_cS] | rw [drop_cP] | rw [drop_cR]); rotate_left; assumption)); try simp only [go_sem, ↓reduceIte, Nat.reduceAdd, Nat.reduceEqDiff, Nat.reduceLT, Nat.reduceLeDiff, Nat.reduceBEq, Int.reduceEq, Int.reduceLT, Int.reduceLE]))
        exact hR
      rw [he, hs]
      exact ih (i + 1) (by omega)
theorem k117 (L : List Int) (v : Int) (hl : L.length < 1000000) (s : St) : lim tbl (.call 117 [sl cI L, i64 v]) s = some (.ret, [.bool (hasI L v)], s) := by
  have h132 : (hasI L v = false ∧ lim tbl (.call 132 [sl cI L, i64 v]) s = some (.ret, [i64 (-1)], s)) ∨ (hasI L v = true ∧ ∃ j : Nat, lim tbl (.call 132 [sl cI L, i64 v]) s = some (.ret, [i64 (Int.ofNat j)], s)) := by
    rw [lim_call tbl_132]
    rcases l132 L v hl s L.length 0 (by omega) with ⟨h0, h1⟩ | ⟨h0, j, h1⟩
    · left
      rw [List.drop_zero] at h0; rw [ofNat_0] at h1
      refine ⟨h0, ?_⟩
      obtain ⟨N, O, p, q⟩ := s
      (try simp only [go_sem, ↓reduceIte, Nat.reduceAdd, Nat.reduceEqDiff, Nat.reduceLT, Nat.reduceLeDiff, Nat.reduceBEq, Int.reduceEq, Int.reduceLT, Int.reduceLE]); (repeat ((first | rw [h1] | (rw [lt_yes]; rotate_left; (first | omega | (simp [lenOf, app]; omega) | (simp only [lenOf]; omega))) | (rw [lt_no]; rotate_left; (first | omega | (simp [lenOf, app]; omega) | (simp only [lenOf]; omega))) | (rw [idxA_at]; rotate_left; (first | omega | (simp [lenOf, app]; omega) | (simp only [lenOf]; omega))) | (rw [wr_up]; rotate_left; (first | omega | (simp [lenOf, app]; omega) | (simp only [lenOf]; omega))) | ((first | rw [drop_cI] | rw [drop_cE] | rw [drop_cS] | rw [drop_cP] | rw [drop_cR]); rotate_left; assumption)); try simp only [go_sem, ↓reduceIte, Nat.reduceAdd, Nat.reduceEqDiff, Nat.reduceLT, Nat.reduceLeDiff, Nat.reduceBEq, Int.reduceEq, Int.reduceLT, Int.reduceLE]))
    · right
      rw [List.drop_zero] at h0; rw [ofNat_0] at h1
      refine ⟨h0, j, ?_⟩
      obtain ⟨N, O, p, q⟩ := s
      (try simp only [go_sem, ↓reduceIte, Nat.reduceAdd, Nat.reduceEqDiff, Nat.reduceLT, Nat.reduceLeDiff, Nat.reduceBEq, Int.reduceEq, Int.reduceLT, Int.reduceLE]); (repeat ((first | rw [h1] | (rw [lt_yes]; rotate_left; (first | omega | (simp [lenOf, app]; omega) | (simp only [lenOf]; omega))) | (rw [lt_no]; rotate_left; (first | omega | (simp [lenOf, app]; omega) | (simp only [lenOf]; omega))) | (rw [idxA_at]; rotate_left; (first | omega | (simp [lenOf, app]; omega) | (simp only [lenOf]; omega))) | (rw [wr_up]; rotate_left; (first | omega | (simp [lenOf, app]; omega) | (simp only [lenOf]; omega))) | ((first | rw [drop_cI] | rw [drop_cE] | rw [drop_cS] | rw [drop_cP] | rw [drop_cR]); rotate_left; assumption)); try simp only [go_sem, ↓reduceIte, Nat.reduceAdd, Nat.reduceEqDiff, Nat.reduceLT, Nat.reduceLeDiff, Nat.reduceBEq, Int.reduceEq, Int.reduceLT, Int.reduceLE]))
  rw [lim_call tbl_117]
  rcases h132 with ⟨h0, h1⟩ | ⟨h0, j, h1⟩
  · rw [h0]; obtain ⟨N, O, p, q⟩ := s
    (try simp only [go_sem, ↓reduceIte, Nat.reduceAdd, Nat.reduceEqDiff, Nat.reduceLT, Nat.reduceLeDiff, Nat.reduceBEq, Int.reduceEq, Int.reduceLT, Int.reduceLE]); (repeat ((first | rw [h1] | (rw [lt_yes]; rotate_left; (first | omega | (simp [lenOf, app]; omega) | (simp only [lenOf]; omega))) | (rw [lt_no]; rotate_left; (first | omega | (simp [lenOf, app]; omega) | (simp only [lenOf]; omega))) | (rw [idxA_at]; rotate_left; (first | omega | (simp [lenOf, app]; omega) | (simp only [lenOf]; omega))) | (rw [wr_up]; rotate_left; (first | omega | (simp [lenOf, app]; omega) | (simp only [lenOf]; omega))) | ((first | rw [drop_cI] | rw [drop_cE] | rw [drop_cS] | rw [drop_cP] | rw [drop_cR]); rotate_left; assumption)); try simp only [go_sem, ↓reduceIte, Nat.reduceAdd, Nat.reduceEqDiff, Nat.reduceLT, Nat.reduceLeDiff, Nat.reduceBEq, Int.reduceEq, Int.reduceLT, Int.reduceLE]))
  · rw [h0]
    have hj : (0 : Int) ≤ Int.ofNat j := by simp
    obtain ⟨N, O, p, q⟩ := s
    (try simp only [go_sem, ↓reduceIte, Nat.reduceAdd, Nat.reduceEqDiff, Nat.reduceLT, Nat.reduceLeDiff, Nat.reduceBEq, Int.reduceEq, Int.reduceLT, Int.reduceLE]); (repeat ((first | rw [h1] | rw [le_y hj] | (rw [lt_yes]; rotate_left; (first | omega | (simp [lenOf, app]; omega) | (simp only [lenOf]; omega))) | (rw [lt_no]; rotate_left; (first | omega | (simp [lenOf, app]; omega) | (simp only [lenOf]; omega))) | (rw [idxA_at]; rotate_left; (first | omega | (simp [lenOf, app]; omega) | (simp only [lenOf]; omega))) | (rw [wr_up]; rotate_left; (first | omega | (simp [lenOf, app]; omega) | (simp only [lenOf]; omega))) | ((first | rw [drop_cI] | rw [drop_cE] | rw [drop_cS] | rw [drop_cP] | rw [drop_cR]); rotate_left; assumption)); try simp only [go_sem, ↓reduceIte, Nat.reduceAdd, Nat.reduceEqDiff, Nat.reduceLT, Nat.reduceLeDiff, Nat.reduceBEq, Int.reduceEq, Int.reduceLT, Int.reduceLE]))

def OkS (ss : List Say) : Prop := ∀ x ∈ ss, ∃ u : Nat, u < 6 ∧ x.w = Int.ofNat u
def rightUp (a : Nat → Int) (out : List Int) : Nat → List Say → Bool
  | _, [] => true
  | i, x :: l => (hasI out (Int.ofNat i) || within (a x.w.toNat) x.ow.lo x.ow.hi) && rightUp a out (i + 1) l
theorem l96 (ss : List Say) (a : Nat → Int) (out : List Int) (hl : ss.length < 1000000) (ho : out.length < 1000000) (hS : OkS ss) (p : Nat) (q : Nat → Nat) : ∀ (k i N : Nat) (O : List AObj), i + k = ss.length →
   ∃ M Q, Ext N O M Q ∧ lim tbl (.loop a96_l0 32 ⟨[2, 4, 10, 11, 12], [], [6]⟩ [sl cI out, .vref (c6 a), sl cS ss, i64 (Int.ofNat (lenOf ss)), i64 (Int.ofNat i)]) ⟨N, O, p, q⟩
     = if rightUp a out i (ss.drop i) then some (.exit 0, [], ⟨M, Q, p, q⟩) else some (.ret, [.bool false], ⟨M, Q, p, q⟩) := by
  intro k
  induction k with
  | zero =>
    intro i N O hi
    refine ⟨N, O, Ext.refl .., ?_⟩
    rw [List.drop_eq_nil_of_le (by omega), rightUp, if_pos rfl, lim_loop]
    (try simp only [go_sem, ↓reduceIte, Nat.reduceAdd, Nat.reduceEqDiff, Nat.reduceLT, Nat.reduceLeDiff, Nat.reduceBEq, Int.reduceEq, Int.reduceLT, Int.reduceLE]); (repeat ((first | (rw [lt_yes]; rotate_left; (first | omega | (simp [lenOf, app]; omega) | (simp only [lenOf]; omega))) | (rw [lt_no]; rotate_left; (first | omega | (simp [lenOf, app]; omega) | (simp only [lenOf]; omega))) | (rw [idxA_at]; rotate_left; (first | omega | (simp [lenOf, app]; omega) | (simp only [lenOf]; omega))) | (rw [wr_up]; rotate_left; (first | omega | (simp [lenOf, app]; omega) | (simp only [lenOf]; omega))) | ((first | rw [drop_cI] | rw [drop_cE] | rw [drop_cS] | rw [drop_cP] | rw [drop_cR]); rotate_left; assumption)); try simp only [go_sem, ↓reduceIte, Nat.reduceAdd, Nat.reduceEqDiff, Nat.reduceLT, Nat.reduceLeDiff, Nat.reduceBEq, Int.reduceEq, Int.reduceLT, Int.reduceLE]))
  | succ k ih =>
    intro i N O hi
    have hlt : i < ss.length := by omega
    obtain ⟨x, hx, hd⟩ := getElem_drop hlt
    obtain ⟨u, hu, hw⟩ := hS x (List.mem_of_getElem? hx)
    obtain ⟨w, ⟨lo, hi'⟩⟩ := x
    simp only at hw
    subst hw
    have h117 := fun s => k117 out (Int.ofNat i) ho s
    obtain ⟨M, Q, hE, h'⟩ := ih (i + 1) (na N 1) (.cells [i64 (Int.ofNat u), i64 lo, i64 hi'] :: O) (by omega)
    have hdr := drop_c6 a hu
    rw [hd, rightUp]
    simp only [show (Int.ofNat u).toNat = u from rfl]
    cases h1 : hasI out (Int.ofNat i) with
    | true =>
      refine ⟨M, Q, hE.push, ?_⟩
      simp only [Bool.true_or, Bool.true_and]
      rw [lim_loop]
      rw [← h']
      generalize hR : lim tbl _ (_ : St) = R
      (try simp only [go_sem, ↓reduceIte, Nat.reduceAdd, Nat.reduceEqDiff, Nat.reduceLT, Nat.reduceLeDiff, Nat.reduceBEq, Int.reduceEq, Int.reduceLT, Int.reduceLE]); (repeat ((first | simp only [h117] | simp only [h1] | (rw [lt_yes]; rotate_left; (first | omega | (simp [lenOf, app]; omega) | (simp only [lenOf]; omega))) | (rw [lt_no]; rotate_left; (first | omega | (simp [lenOf, app]; omega) | (simp only [lenOf]; omega))) | (rw [idxA_at]; rotate_left; (first | omega | (simp [lenOf, app]; omega) | (simp only [lenOf]; omega))) | (rw [wr_up]; rotate_left; (first | omega | (simp [lenOf, app]; omega) | (simp only [lenOf]; omega))) | ((first | rw [drop_cI] | rw [drop_cE] | rw [drop_cS] | rw [drop_cP] | rw [drop_cR]); rotate_left; assumption)); try simp only [go_sem, ↓reduceIte, Nat.reduceAdd, Nat.reduceEqDiff, Nat.reduceLT, Nat.reduceLeDiff, Nat.reduceBEq, Int.reduceEq, Int.reduceLT, Int.reduceLE]))
      exact hR
    | false =>
      cases h2 : within (a u) lo hi' with
      | true =>
        refine ⟨M, Q, hE.push, ?_⟩
        simp only [Bool.or_true, Bool.true_and]
        rw [lim_loop]
        rw [← h']
        generalize hR : lim tbl _ (_ : St) = R
        (try simp only [go_sem, ↓reduceIte, Nat.reduceAdd, Nat.reduceEqDiff, Nat.reduceLT, Nat.reduceLeDiff, Nat.reduceBEq, Int.reduceEq, Int.reduceLT, Int.reduceLE]); (repeat ((first | simp only [h117] | simp only [h1] | rw [hdr] | simp only [h2] | (rw [lt_yes]; rotate_left; (first | omega | (simp [lenOf, app]; omega) | (simp only [lenOf]; omega))) | (rw [lt_no]; rotate_left; (first | omega | (simp [lenOf, app]; omega) | (simp only [lenOf]; omega))) | (rw [idxA_at]; rotate_left; (first | omega | (simp [lenOf, app]; omega) | (simp only [lenOf]; omega))) | (rw [wr_up]; rotate_left; (first | omega | (simp [lenOf, app]; omega) | (simp only [lenOf]; omega))) | ((first | rw [drop_cI] | rw [drop_cE] | rw [drop_cS] | rw [drop_cP] | rw [drop_cR]); rotate_left; assumption)); try simp only [go_sem, ↓reduceIte, Nat.reduceAdd, Nat.reduceEqDiff, Nat.reduceLT, Nat.reduceLeDiff, Nat.reduceBEq, Int.reduceEq, Int.reduceLT, Int.reduceLE]))
        exact hR
      | false =>
        refine ⟨_, _, (Ext.refl (na N 1) (.cells [i64 (Int.ofNat u), i64 lo, i64 hi'] :: O)).push, ?_⟩
        simp only [Bool.or_false, Bool.false_and, Bool.false_eq_true, if_false]
        rw [lim_loop]
        (try simp only [go_sem, ↓reduceIte, Nat.reduceAdd, Nat.reduceEqDiff, Nat.reduceLT, Nat.reduceLeDiff, Nat.reduceBEq, Int.reduceEq, Int.reduceLT, Int.reduceLE]); (repeat ((first | simp only [h117] | simp only [h1] | rw [hdr] | simp only [h2] | (rw [lt_yes]; rotate_left; (first | omega | (simp [lenOf, app]; omega) | (simp only [lenOf]; omega))) | (rw [lt_no]; rotate_left; (first | omega | (simp [lenOf, app]; omega) | (simp only [lenOf]; omega))) | (rw [idxA_at]; rotate_left; (first | omega | (simp [lenOf, app]; omega) | (simp only [lenOf]; omega))) | (rw [wr_up]; rotate_left; (first | omega | (simp [lenOf, app]; omega) | (simp only [lenOf]; omega))) | ((first | rw [drop_cI] | rw [drop_cE] | rw [drop_cS] | rw [drop_cP] | rw [drop_cR]); rotate_left; assumption)); try simp only [go_sem, ↓reduceIte, Nat.reduceAdd, Nat.reduceEqDiff, Nat.reduceLT, Nat.reduceLeDiff, Nat.reduceBEq, Int.reduceEq, Int.reduceLT, Int.reduceLE]))
theorem k96 (S : Slate) (a : Nat → Int) (out : List Int) (hl : S.ss.length < 1000000) (ho : out.length < 1000000) (hS : OkS S.ss) (s : St) : lim tbl (.call 96 [vSl S, .agg (c6 a), sl cI out]) s = some (.ret, [.bool (rightUp a out 0 S.ss)], s) := by
  obtain ⟨w, es, ss⟩ := S
  rw [lim_call tbl_96]; obtain ⟨N, O, p, q⟩ := s
  obtain ⟨M, Q, hE, h0⟩ := l96 ss a out hl ho hS p q ss.length 0 N O (by omega)
  rw [List.drop_zero, ofNat_0] at h0
  have hold := hE.old0 p q
  simp only
  cases hr : rightUp a out 0 ss with
  | true =>
    rw [hr] at h0; simp only [if_true] at h0
    (try simp only [go_sem, ↓reduceIte, Nat.reduceAdd, Nat.reduceEqDiff, Nat.reduceLT, Nat.reduceLeDiff, Nat.reduceBEq, Int.reduceEq, Int.reduceLT, Int.reduceLE]); (repeat ((first | rw [h0] | rw [hold] | (rw [lt_yes]; rotate_left; (first | omega | (simp [lenOf, app]; omega) | (simp only [lenOf]; omega))) | (rw [lt_no]; rotate_left; (first | omega | (simp [lenOf, app]; omega) | (simp only [lenOf]; omega))) | (rw [idxA_at]; rotate_left; (first | omega | (simp [lenOf, app]; omega) | (simp only [lenOf]; omega))) | (rw [wr_up]; rotate_left; (first | omega | (simp [lenOf, app]; omega) | (simp only [lenOf]; omega))) | ((first | rw [drop_cI] | rw [drop_cE] | rw [drop_cS] | rw [drop_cP] | rw [drop_cR]); rotate_left; assumption)); try simp only [go_sem, ↓reduceIte, Nat.reduceAdd, Nat.reduceEqDiff, Nat.reduceLT, Nat.reduceLeDiff, Nat.reduceBEq, Int.reduceEq, Int.reduceLT, Int.reduceLE]))
  | false =>
    rw [hr] at h0; simp only [Bool.false_eq_true, if_false] at h0
    (try simp only [go_sem, ↓reduceIte, Nat.reduceAdd, Nat.reduceEqDiff, Nat.reduceLT, Nat.reduceLeDiff, Nat.reduceBEq, Int.reduceEq, Int.reduceLT, Int.reduceLE]); (repeat ((first | rw [h0] | rw [hold] | (rw [lt_yes]; rotate_left; (first | omega | (simp [lenOf, app]; omega) | (simp only [lenOf]; omega))) | (rw [lt_no]; rotate_left; (first | omega | (simp [lenOf, app]; omega) | (simp only [lenOf]; omega))) | (rw [idxA_at]; rotate_left; (first | omega | (simp [lenOf, app]; omega) | (simp only [lenOf]; omega))) | (rw [wr_up]; rotate_left; (first | omega | (simp [lenOf, app]; omega) | (simp only [lenOf]; omega))) | ((first | rw [drop_cI] | rw [drop_cE] | rw [drop_cS] | rw [drop_cP] | rw [drop_cR]); rotate_left; assumption)); try simp only [go_sem, ↓reduceIte, Nat.reduceAdd, Nat.reduceEqDiff, Nat.reduceLT, Nat.reduceLeDiff, Nat.reduceBEq, Int.reduceEq, Int.reduceLT, Int.reduceLE]))
theorem k96n (S : Slate) (a : Nat → Int) (hl : S.ss.length < 1000000) (hS : OkS S.ss) (s : St) : lim tbl (.call 96 [vSl S, .agg (c6 a), .sl0]) s = some (.ret, [.bool (rightUp a [] 0 S.ss)], s) := by
  have h := k96 S a [] hl (by simp) hS s
  rw [lim_call tbl_96] at h ⊢
  exact h

theorem l108 (w : Int) (ss : List Say) (es : List Ent) (L : List Int) (hl : es.length < 1000000) (hL : L.length = es.length) (s : St) : ∀ (k i : Nat), i + k = es.length → ∀ R,
   R = (if areOz (es.drop i) (L.drop i) then some (.exit 0, [], s) else some (.ret, [.bool false], s)) →
   lim tbl (.loop a108_l0 30 ⟨[2, 13, 14, 15], [], [4]⟩ [.vref [i64 w, sl cE es, sl cS ss], sl cI L, i64 (Int.ofNat (lenOf L)), i64 (Int.ofNat i)]) s = R := by
  intro k
  induction k with
  | zero =>
    intro i hi R hR
    obtain ⟨N, O, p, q⟩ := s
    rw [List.drop_eq_nil_of_le (by omega), List.drop_eq_nil_of_le (by omega)] at hR
    simp only [areOz, if_true] at hR
    rw [lim_loop]
    (try simp only [go_sem, ↓reduceIte, Nat.reduceAdd, Nat.reduceEqDiff, Nat.reduceLT, Nat.reduceLeDiff, Nat.reduceBEq, Int.reduceEq, Int.reduceLT, Int.reduceLE]); (repeat ((first | (rw [lt_yes]; rotate_left; (first | omega | (simp [lenOf, app]; omega) | (simp only [lenOf]; omega))) | (rw [lt_no]; rotate_left; (first | omega | (simp [lenOf, app]; omega) | (simp only [lenOf]; omega))) | (rw [idxA_at]; rotate_left; (first | omega | (simp [lenOf, app]; omega) | (simp only [lenOf]; omega))) | (rw [wr_up]; rotate_left; (first | omega | (simp [lenOf, app]; omega) | (simp only [lenOf]; omega))) | ((first | rw [drop_cI] | rw [drop_cE] | rw [drop_cS] | rw [drop_cP] | rw [drop_cR]); rotate_left; assumption)); try simp only [go_sem, ↓reduceIte, Nat.reduceAdd, Nat.reduceEqDiff, Nat.reduceLT, Nat.reduceLeDiff, Nat.reduceBEq, Int.reduceEq, Int.reduceLT, Int.reduceLE]))
    exact hR.symm
  | succ k ih =>
    intro i hi R hR
    obtain ⟨N, O, p, q⟩ := s
    have hlt : i < es.length := by omega
    have hlt' : i < L.length := by omega
    obtain ⟨e, he, hd⟩ := getElem_drop hlt
    obtain ⟨n, hn, hd'⟩ := getElem_drop hlt'
    obtain ⟨a, b, ⟨lo, hi'⟩⟩ := e
    rw [hd, hd', areOz] at hR
    rw [lim_loop]
    cases h : within n lo hi' with
    | false =>
      simp only [h, Bool.false_and, Bool.false_eq_true, if_false] at hR
      (try simp only [go_sem, ↓reduceIte, Nat.reduceAdd, Nat.reduceEqDiff, Nat.reduceLT, Nat.reduceLeDiff, Nat.reduceBEq, Int.reduceEq, Int.reduceLT, Int.reduceLE]); (repeat ((first | simp only [h] | (rw [lt_yes]; rotate_left; (first | omega | (simp [lenOf, app]; omega) | (simp only [lenOf]; omega))) | (rw [lt_no]; rotate_left; (first | omega | (simp [lenOf, app]; omega) | (simp only [lenOf]; omega))) | (rw [idxA_at]; rotate_left; (first | omega | (simp [lenOf, app]; omega) | (simp only [lenOf]; omega))) | (rw [wr_up]; rotate_left; (first | omega | (simp [lenOf, app]; omega) | (simp only [lenOf]; omega))) | ((first | rw [drop_cI] | rw [drop_cE] | rw [drop_cS] | rw [drop_cP] | rw [drop_cR]); rotate_left; assumption)); try simp only [go_sem, ↓reduceIte, Nat.reduceAdd, Nat.reduceEqDiff, Nat.reduceLT, Nat.reduceLeDiff, Nat.reduceBEq, Int.reduceEq, Int.reduceLT, Int.reduceLE]))
      exact hR.symm
    | true =>
      simp only [h, Bool.true_and] at hR
      (try simp only [go_sem, ↓reduceIte, Nat.reduceAdd, Nat.reduceEqDiff, Nat.reduceLT, Nat.reduceLeDiff, Nat.reduceBEq, Int.reduceEq, Int.reduceLT, Int.reduceLE]); (repeat ((first | simp only [h] | (rw [lt_yes]; rotate_left; (first | omega | (simp [lenOf, app]; omega) | (simp only [lenOf]; omega))) | (rw [lt_no]; rotate_left; (first | omega | (simp [lenOf, app]; omega) | (simp only [lenOf]; omega))) | (rw [idxA_at]; rotate_left; (first | omega | (simp [lenOf, app]; omega) | (simp only [lenOf]; omega))) | (rw [wr_up]; rotate_left; (first | omega | (simp [lenOf, app]; omega) | (simp only [lenOf]; omega))) | ((first | rw [drop_cI] | rw [drop_cE] | rw [drop_cS] | rw [drop_cP] | rw [drop_cR]); rotate_left; assumption)); try simp only [go_sem, ↓reduceIte, Nat.reduceAdd, Nat.reduceEqDiff, Nat.reduceLT, Nat.reduceLeDiff, Nat.reduceBEq, Int.reduceEq, Int.reduceLT, Int.reduceLE]))
      exact ih (i + 1) (by omega) R hR
theorem k108 (S : Slate) (L : List Int) (hl : S.es.length < 1000000) (s : St) : lim tbl (.call 108 [vSl S, sl cI L]) s = some (.ret, [.bool (areOz S.es L)], s) := by
  obtain ⟨w, es, ss⟩ := S
  rw [lim_call tbl_108]
  by_cases hL : lenOf L = lenOf es
  · have h := l108 w ss es L hl hL s es.length 0 (by omega) _ rfl
    rw [List.drop_zero, List.drop_zero, ofNat_0] at h
    obtain ⟨N, O, p, q⟩ := s
    simp only
    cases ha : areOz es L with
    | true =>
      rw [ha] at h; simp only [if_true] at h
      (try simp only [go_sem, ↓reduceIte, Nat.reduceAdd, Nat.reduceEqDiff, Nat.reduceLT, Nat.reduceLeDiff, Nat.reduceBEq, Int.reduceEq, Int.reduceLT, Int.reduceLE]); (repeat ((first | rw [eqN_y hL] | rw [h] | (rw [lt_yes]; rotate_left; (first | omega | (simp [lenOf, app]; omega) | (simp only [lenOf]; omega))) | (rw [lt_no]; rotate_left; (first | omega | (simp [lenOf, app]; omega) | (simp only [lenOf]; omega))) | (rw [idxA_at]; rotate_left; (first | omega | (simp [lenOf, app]; omega) | (simp only [lenOf]; omega))) | (rw [wr_up]; rotate_left; (first | omega | (simp [lenOf, app]; omega) | (simp only [lenOf]; omega))) | ((first | rw [drop_cI] | rw [drop_cE] | rw [drop_cS] | rw [drop_cP] | rw [drop_cR]); rotate_left; assumption)); try simp only [go_sem, ↓reduceIte, Nat.reduceAdd, Nat.reduceEqDiff, Nat.reduceLT, Nat.reduceLeDiff, Nat.reduceBEq, Int.reduceEq, Int.reduceLT, Int.reduceLE]))
    | false =>
      rw [ha] at h; simp only [Bool.false_eq_true, if_false] at h
      (try simp only [go_sem, ↓reduceIte, Nat.reduceAdd, Nat.reduceEqDiff, Nat.reduceLT, Nat.reduceLeDiff, Nat.reduceBEq, Int.reduceEq, Int.reduceLT, Int.reduceLE]); (repeat ((first | rw [eqN_y hL] | rw [h] | (rw [lt_yes]; rotate_left; (first | omega | (simp [lenOf, app]; omega) | (simp only [lenOf]; omega))) | (rw [lt_no]; rotate_left; (first | omega | (simp [lenOf, app]; omega) | (simp only [lenOf]; omega))) | (rw [idxA_at]; rotate_left; (first | omega | (simp [lenOf, app]; omega) | (simp only [lenOf]; omega))) | (rw [wr_up]; rotate_left; (first | omega | (simp [lenOf, app]; omega) | (simp only [lenOf]; omega))) | ((first | rw [drop_cI] | rw [drop_cE] | rw [drop_cS] | rw [drop_cP] | rw [drop_cR]); rotate_left; assumption)); try simp only [go_sem, ↓reduceIte, Nat.reduceAdd, Nat.reduceEqDiff, Nat.reduceLT, Nat.reduceLeDiff, Nat.reduceBEq, Int.reduceEq, Int.reduceLT, Int.reduceLE]))
  · have ha := areOz_ne (es := es) (l := L) hL
    simp only
    rw [ha]
    obtain ⟨N, O, p, q⟩ := s
    (try simp only [go_sem, ↓reduceIte, Nat.reduceAdd, Nat.reduceEqDiff, Nat.reduceLT, Nat.reduceLeDiff, Nat.reduceBEq, Int.reduceEq, Int.reduceLT, Int.reduceLE]); (repeat ((first | rw [eqN_n hL] | (rw [lt_yes]; rotate_left; (first | omega | (simp [lenOf, app]; omega) | (simp only [lenOf]; omega))) | (rw [lt_no]; rotate_left; (first | omega | (simp [lenOf, app]; omega) | (simp only [lenOf]; omega))) | (rw [idxA_at]; rotate_left; (first | omega | (simp [lenOf, app]; omega) | (simp only [lenOf]; omega))) | (rw [wr_up]; rotate_left; (first | omega | (simp [lenOf, app]; omega) | (simp only [lenOf]; omega))) | ((first | rw [drop_cI] | rw [drop_cE] | rw [drop_cS] | rw [drop_cP] | rw [drop_cR]); rotate_left; assumption)); try simp only [go_sem, ↓reduceIte, Nat.reduceAdd, Nat.reduceEqDiff, Nat.reduceLT, Nat.reduceLeDiff, Nat.reduceBEq, Int.reduceEq, Int.reduceLT, Int.reduceLE]))
/-- Slates that pass. -/
structure Good (S : Slate) : Prop where
  w0 : 0 ≤ S.women
  w6 : S.women ≤ 6
  e6 : S.es.length ≤ 6
  s5 : S.ss.length ≤ 5
  oe : OkE S.es
  of : OkF S.es
  os : OkS S.ss
/-- What the program plays: the number of the error, and what all women are owed. -/
def playErr (S : Slate) (L : List Int) : Int := if checkSlate S ≠ 0 then checkSlate S else if areOz S.es L then 0 else 2
def playOw (S : Slate) (L : List Int) : Nat → Int := if checkSlate S = 0 ∧ areOz S.es L = true then owV S.es L else fun _ => 0
theorem c6_0 : c6 (fun _ => 0) = [i64 0, i64 0, i64 0, i64 0, i64 0, i64 0] := rfl
theorem k79 (S : Slate) (L : List Int) (hg : checkSlate S = 0 → Good S) (s : St) : lim tbl (.call 79 [vSl S, sl cI L]) s = some (.ret, [.tup [.agg (c6 (playOw S L)), i64 (playErr S L)]], s) := by
  have h63 := fun s => k63 S s
  rw [lim_call tbl_79]
  by_cases hc : checkSlate S = 0
  · have hG := hg hc
    have h108 := fun s => k108 S L (by have := hG.e6; omega) s
    cases ha : areOz S.es L with
    | true =>
      have h109 := fun s => k109 S L (by have := hG.e6; omega) (areOz_len ha) hG.of s
      have h1 : playOw S L = owV S.es L := by simp [playOw, hc, ha]
      have h2 : playErr S L = 0 := by simp [playErr, hc, ha]
      rw [h1, h2]
      generalize owV S.es L = A at h109 ⊢
      rw [ha] at h108
      rw [hc] at h63
      obtain ⟨w, es, ss⟩ := S
      obtain ⟨N, O, p, q⟩ := s
      (try simp only [go_sem, ↓reduceIte, Nat.reduceAdd, Nat.reduceEqDiff, Nat.reduceLT, Nat.reduceLeDiff, Nat.reduceBEq, Int.reduceEq, Int.reduceLT, Int.reduceLE]); (repeat ((first | simp only [h63] | simp only [h108] | simp only [h109] | (rw [lt_yes]; rotate_left; (first | omega | (simp [lenOf, app]; omega) | (simp only [lenOf]; omega))) | (rw [lt_no]; rotate_left; (first | omega | (simp [lenOf, app]; omega) | (simp only [lenOf]; omega))) | (rw [idxA_at]; rotate_left; (first | omega | (simp [lenOf, app]; omega) | (simp only [lenOf]; omega))) | (rw [wr_up]; rotate_left; (first | omega | (simp [lenOf, app]; omega) | (simp only [lenOf]; omega))) | ((first | rw [drop_cI] | rw [drop_cE] | rw [drop_cS] | rw [drop_cP] | rw [drop_cR]); rotate_left; assumption)); try simp only [go_sem, ↓reduceIte, Nat.reduceAdd, Nat.reduceEqDiff, Nat.reduceLT, Nat.reduceLeDiff, Nat.reduceBEq, Int.reduceEq, Int.reduceLT, Int.reduceLE]))
    | false =>
      have h1 : playOw S L = fun _ => 0 := by simp [playOw, ha]
      have h2 : playErr S L = 2 := by simp [playErr, hc, ha]
      rw [h1, h2, c6_0]
      rw [ha] at h108
      rw [hc] at h63
      obtain ⟨w, es, ss⟩ := S
      obtain ⟨N, O, p, q⟩ := s
      (try simp only [go_sem, ↓reduceIte, Nat.reduceAdd, Nat.reduceEqDiff, Nat.reduceLT, Nat.reduceLeDiff, Nat.reduceBEq, Int.reduceEq, Int.reduceLT, Int.reduceLE]); (repeat ((first | simp only [h63] | simp only [h108] | (rw [lt_yes]; rotate_left; (first | omega | (simp [lenOf, app]; omega) | (simp only [lenOf]; omega))) | (rw [lt_no]; rotate_left; (first | omega | (simp [lenOf, app]; omega) | (simp only [lenOf]; omega))) | (rw [idxA_at]; rotate_left; (first | omega | (simp [lenOf, app]; omega) | (simp only [lenOf]; omega))) | (rw [wr_up]; rotate_left; (first | omega | (simp [lenOf, app]; omega) | (simp only [lenOf]; omega))) | ((first | rw [drop_cI] | rw [drop_cE] | rw [drop_cS] | rw [drop_cP] | rw [drop_cR]); rotate_left; assumption)); try simp only [go_sem, ↓reduceIte, Nat.reduceAdd, Nat.reduceEqDiff, Nat.reduceLT, Nat.reduceLeDiff, Nat.reduceBEq, Int.reduceEq, Int.reduceLT, Int.reduceLE]))
  · have h1 : playOw S L = fun _ => 0 := by simp [playOw, hc]
    have h2 : playErr S L = checkSlate S := by simp [playErr, hc]
    rw [h1, h2, c6_0]
    generalize checkSlate S = c at h63 hc ⊢
    obtain ⟨w, es, ss⟩ := S
    obtain ⟨N, O, p, q⟩ := s
    (try simp only [go_sem, ↓reduceIte, Nat.reduceAdd, Nat.reduceEqDiff, Nat.reduceLT, Nat.reduceLeDiff, Nat.reduceBEq, Int.reduceEq, Int.reduceLT, Int.reduceLE]); (repeat ((first | simp only [h63] | rw [eq_n hc] | (rw [lt_yes]; rotate_left; (first | omega | (simp [lenOf, app]; omega) | (simp only [lenOf]; omega))) | (rw [lt_no]; rotate_left; (first | omega | (simp [lenOf, app]; omega) | (simp only [lenOf]; omega))) | (rw [idxA_at]; rotate_left; (first | omega | (simp [lenOf, app]; omega) | (simp only [lenOf]; omega))) | (rw [wr_up]; rotate_left; (first | omega | (simp [lenOf, app]; omega) | (simp only [lenOf]; omega))) | ((first | rw [drop_cI] | rw [drop_cE] | rw [drop_cS] | rw [drop_cP] | rw [drop_cR]); rotate_left; assumption)); try simp only [go_sem, ↓reduceIte, Nat.reduceAdd, Nat.reduceEqDiff, Nat.reduceLT, Nat.reduceLeDiff, Nat.reduceBEq, Int.reduceEq, Int.reduceLT, Int.reduceLE]))
end Go.Proofs.Ytlhfeiacigmliaa

/- The wash-house's soap: what the functions compute: Play, ProveTruth; which slates pass. -/
namespace Go.Proofs.Ytlhfeiacigmliaa
open Go
set_option maxRecDepth 10000

theorem frz1_copySl {α : Type} {f : α → List AVal} (hf : ∀ a, weaks (f a) = some (f a)) (n : Nat) (s : St) (sz p : Nat) (l : List α) : frz1 n s sz (copySl f p l) = some (sl f l) := by
  have h := weak_copySl hf p l
  unfold copySl at h ⊢; split
  · rename_i h0; rw [if_pos h0] at h; simpa [frz1] using h
  · rename_i h0; rw [if_neg h0] at h; simpa [frz1] using h
@[go_sem] theorem frz1_copy_cI (n : Nat) (s : St) (sz p : Nat) (l : List Int) : frz1 n s sz (copySl cI p l) = some (sl cI l) := frz1_copySl (fun _ => rfl) ..
theorem append_copy' {α : Type} {f : α → List AVal} {sz : Nat} (bytes : Nat) (p : Nat) (q : Nat → Nat) (N : Nat) (O : List AObj) (x : AVal) (l : List α) (he : elemsA ⟨N, O, p, q⟩ sz x = some (l.length, cellsOf f l)) (h : l.length * bytes ≤ 140737488355328) (h' : l.length ≤ 140737488355328) :
    appendA sz bytes (.vsl [] 0 .full) x ⟨N, O, p, q⟩ = some (copySl f p l, ⟨N, O, roomP p (lenOf l), roomC p q (lenOf l)⟩) := by
  unfold lenOf
  unfold appendA
  rw [he]
  by_cases hl : l.length = 0
  · simp [hl, copySl, roomP, roomC]
  · simp [hl, copySl, roomP, roomC, St.fresh, h, h']
theorem sub_zero_ (n : Nat) : Nat.sub n 0 = n := rfl
theorem bnd_in {n m : Nat} (h : n ≤ m) : bndV (i64 (Int.ofNat n)) m = some n := by
  simp [bndV]; omega
/-- The first of six numbers. -/
def l6 (a : Nat → Int) (w : Nat) : List Int := (List.range w).map a
theorem l6_len (a : Nat → Int) (w : Nat) : (l6 a w).length = w := by simp [l6]
theorem take_c6 {w : Nat} (a : Nat → Int) (h : w ≤ 6) : (c6 a).take w = cellsOf cI (l6 a w) := by
  match w, h with
  | 0, _ | 1, _ | 2, _ | 3, _ | 4, _ | 5, _ | 6, _ => rfl
theorem k87h (b w : Nat) (cap : Option Nat) (a : Nat → Int) (hw : w ≤ 6) (N : Nat) (O : List AObj) (p : Nat) (q : Nat → Nat) (hg : St.get ⟨N, O, p, q⟩ b = some (.cells (c6 a))) : lim tbl (.call 87 [.hsl b 0 w cap]) ⟨N, O, p, q⟩ = some (.ret, [copySl cI p (l6 a w)], ⟨N, O, roomP p (lenOf (l6 a w)), roomC p q (lenOf (l6 a w))⟩) := by
  have ha := append_copy' (f := cI) (sz := 1) 8 p q N O (.hsl b 0 w cap) (l6 a w) (by
    simp only [elemsA]
    rw [look_ptr, hg, show w * 1 = Nat.mul w 1 from rfl, lookP_take a hw, take_c6 a hw, l6_len]; rfl) (by rw [l6_len]; omega) (by rw [l6_len]; omega)
  rw [lim_call tbl_87]
  (try simp only [go_sem, ↓reduceIte, Nat.reduceAdd, Nat.reduceEqDiff, Nat.reduceLT, Nat.reduceLeDiff, Nat.reduceBEq, Int.reduceEq, Int.reduceLT, Int.reduceLE]); (repeat ((first | rw [ha] | (rw [lt_yes]; rotate_left; (first | omega | (simp [lenOf, app]; omega) | (simp only [lenOf]; omega))) | (rw [lt_no]; rotate_left; (first | omega | (simp [lenOf, app]; omega) | (simp only [lenOf]; omega))) | (rw [idxA_at]; rotate_left; (first | omega | (simp [lenOf, app]; omega) | (simp only [lenOf]; omega))) | (rw [wr_up]; rotate_left; (first | omega | (simp [lenOf, app]; omega) | (simp only [lenOf]; omega))) | ((first | rw [drop_cI] | rw [drop_cE] | rw [drop_cS] | rw [drop_cP] | rw [drop_cR]); rotate_left; assumption)); try simp only [go_sem, ↓reduceIte, Nat.reduceAdd, Nat.reduceEqDiff, Nat.reduceLT, Nat.reduceLeDiff, Nat.reduceBEq, Int.reduceEq, Int.reduceLT, Int.reduceLE]))
def playL (S : Slate) (L : List Int) : List Int := if playErr S L = 0 then l6 (playOw S L) S.women.toNat else []
theorem k52 (S : Slate) (L : List Int) (hg : checkSlate S = 0 → Good S) (s : St) : lim tbl (.call 52 [vSl S, sl cI L]) s = some (.ret, [.tup [sl cI (playL S L), i64 (playErr S L)]], s) := by
  have h79 := fun s => k79 S L hg s
  rw [lim_call tbl_52]
  by_cases he : playErr S L = 0
  · have hc : checkSlate S = 0 := by
      by_cases h : checkSlate S = 0
      · exact h
      · unfold playErr at he; rw [if_pos h] at he; exact absurd he h
    have hG := hg hc
    have hw0 := hG.w0
    have hw6 := hG.w6
    have hl : playL S L = l6 (playOw S L) S.women.toNat := by simp [playL, he]
    rw [hl, he]
    rw [he] at h79
    generalize playOw S L = A at h79 ⊢
    obtain ⟨w, es, ss⟩ := S
    simp only at hw0 hw6 h79 ⊢
    obtain ⟨n, rfl⟩ : ∃ n : Nat, w = Int.ofNat n := ⟨w.toNat, by simp; omega⟩
    have hn : n ≤ 6 := by change (n : Int) ≤ 6 at hw6; omega
    simp only [show (Int.ofNat n).toNat = n from rfl]
    obtain ⟨N, O, p, q⟩ := s
    have h87 := k87h N n (some 6) A hn (na N 1) (.cells (c6 A) :: O) p q (get_1_0 ..)
    have hb := bnd_in hn
    (try simp only [go_sem, ↓reduceIte, Nat.reduceAdd, Nat.reduceEqDiff, Nat.reduceLT, Nat.reduceLeDiff, Nat.reduceBEq, Int.reduceEq, Int.reduceLT, Int.reduceLE]); (repeat ((first | simp only [h79] | rw [hb] | rw [sub_zero_] | rw [h87] | (rw [lt_yes]; rotate_left; (first | omega | (simp [lenOf, app]; omega) | (simp only [lenOf]; omega))) | (rw [lt_no]; rotate_left; (first | omega | (simp [lenOf, app]; omega) | (simp only [lenOf]; omega))) | (rw [idxA_at]; rotate_left; (first | omega | (simp [lenOf, app]; omega) | (simp only [lenOf]; omega))) | (rw [wr_up]; rotate_left; (first | omega | (simp [lenOf, app]; omega) | (simp only [lenOf]; omega))) | ((first | rw [drop_cI] | rw [drop_cE] | rw [drop_cS] | rw [drop_cP] | rw [drop_cR]); rotate_left; assumption)); try simp only [go_sem, ↓reduceIte, Nat.reduceAdd, Nat.reduceEqDiff, Nat.reduceLT, Nat.reduceLeDiff, Nat.reduceBEq, Int.reduceEq, Int.reduceLT, Int.reduceLE]))
  · have hl : playL S L = [] := by simp [playL, he]
    rw [hl]
    generalize playErr S L = e at h79 he ⊢
    generalize playOw S L = A at h79 ⊢
    obtain ⟨w, es, ss⟩ := S
    obtain ⟨N, O, p, q⟩ := s
    (try simp only [go_sem, ↓reduceIte, Nat.reduceAdd, Nat.reduceEqDiff, Nat.reduceLT, Nat.reduceLeDiff, Nat.reduceBEq, Int.reduceEq, Int.reduceLT, Int.reduceLE]); (repeat ((first | simp only [h79] | rw [eq_n he] | (rw [lt_yes]; rotate_left; (first | omega | (simp [lenOf, app]; omega) | (simp only [lenOf]; omega))) | (rw [lt_no]; rotate_left; (first | omega | (simp [lenOf, app]; omega) | (simp only [lenOf]; omega))) | (rw [idxA_at]; rotate_left; (first | omega | (simp [lenOf, app]; omega) | (simp only [lenOf]; omega))) | (rw [wr_up]; rotate_left; (first | omega | (simp [lenOf, app]; omega) | (simp only [lenOf]; omega))) | ((first | rw [drop_cI] | rw [drop_cE] | rw [drop_cS] | rw [drop_cP] | rw [drop_cR]); rotate_left; assumption)); try simp only [go_sem, ↓reduceIte, Nat.reduceAdd, Nat.reduceEqDiff, Nat.reduceLT, Nat.reduceLeDiff, Nat.reduceBEq, Int.reduceEq, Int.reduceLT, Int.reduceLE]))

theorem play_check {S : Slate} {L : List Int} (he : playErr S L = 0) : checkSlate S = 0 := by
  by_cases h : checkSlate S = 0
  · exact h
  · unfold playErr at he; rw [if_pos h] at he; exact absurd he h
theorem within_iff {n lo hi : Int} : within n lo hi = true ↔ lo ≤ n ∧ n ≤ hi := by simp [within]
theorem between_iff {rlo rhi lo hi : Int} : between rlo rhi lo hi = true ↔ lo ≤ rlo ∧ rlo ≤ rhi ∧ rhi ≤ hi := by simp [between]
theorem good_of_check {S : Slate} (h : checkSlate S = 0) : Good S := by
  unfold checkSlate at h
  split at h
  · cases h
  split at h
  · cases h
  rename_i h1 h2
  simp only [Bool.or_eq_true, decide_eq_true_eq, not_or, Int.not_lt, Bool.not_eq_true', Bool.not_eq_false] at h1 h2
  obtain ⟨⟨h1, h3⟩, h4⟩ := h1
  obtain ⟨⟨h2, h5⟩, h6⟩ := h2
  have hw : wr .i64 (S.women - 1) = S.women - 1 := wr_in (by omega) (by omega)
  simp only [allB, List.all_eq_true] at h5 h6
  refine ⟨h2, h1, by omega, by omega, fun e he => ?_, fun e he => ?_, fun x hx => ?_⟩
  · have := h5 e he
    simp only [entOk, Bool.and_eq_true, between_iff] at this
    exact this.2
  · have := h5 e he
    simp only [entOk, pair, woman, hw, Bool.and_eq_true, within_iff, Bool.not_eq_true', decide_eq_false_iff_not] at this
    obtain ⟨⟨⟨a1, a2⟩, ⟨b1, b2⟩, _⟩, _⟩ := this
    exact ⟨e.fr.toNat, e.to.toNat, by omega, by omega, by simp; omega, by simp; omega⟩
  · have := h6 x hx
    simp only [sayOk, woman, hw, Bool.and_eq_true, within_iff] at this
    obtain ⟨⟨a1, a2⟩, _⟩ := this
    exact ⟨x.w.toNat, by omega, by simp; omega⟩
/-- The numbers of ounces, multiplied. -/
def prodN : List Ent → Nat
  | [] => 1
  | e :: es => szN e.oz.lo e.oz.hi * prodN es
theorem prodN_pos : ∀ {es : List Ent}, OkE es → 0 < prodN es
  | [], _ => by simp [prodN]
  | e :: es, h => by
    have := h e (by simp)
    have h1 := szN_pos this.2.1
    exact Nat.mul_pos (Nat.pos_of_ne_zero h1) (prodN_pos fun e' he => h e' (by simp [he]))
theorem manyRef_eq : ∀ (es : List Ent) (n : Nat), OkE es → n ≤ 3000 → 0 < n → manyRef (Int.ofNat n) es = Int.ofNat (min 3000 (n * prodN es))
  | [], n, _, h, _ => by simp [manyRef, prodN]; omega
  | e :: es, n, h, hn, h0 => by
    have he := h e (by simp)
    have hs : size e.oz = Int.ofNat (szN e.oz.lo e.oz.hi) := size_ok he.1 he.2.1 he.2.2
    have hp := szN_pos he.2.1
    have hz : szN e.oz.lo e.oz.hi ≤ 41 := by unfold szN; omega
    have hm : n * szN e.oz.lo e.oz.hi ≤ 3000 * 41 := Nat.mul_le_mul hn hz
    have hm0 : 0 < n * szN e.oz.lo e.oz.hi := Nat.mul_pos h0 (Nat.pos_of_ne_zero hp)
    have h1 : manyRef (Int.ofNat n) (e :: es) = manyRef (Int.ofNat (min 3000 (n * szN e.oz.lo e.oz.hi))) es := by
      show manyRef (mn 3000 (wr .i64 (Int.ofNat n * size e.oz))) es = _
      rw [hs, show Int.ofNat n * Int.ofNat (szN e.oz.lo e.oz.hi) = Int.ofNat (n * szN e.oz.lo e.oz.hi) from rfl, wr_nat (by omega)]
      congr 1; simp only [mn, Int.ofNat_eq_natCast]; omega
    have hpp : 0 < prodN es := prodN_pos fun e' he => h e' (by simp [he])
    rw [h1, manyRef_eq es _ (fun e' he => h e' (by simp [he])) (by omega) (by omega)]
    congr 1
    show min 3000 (min 3000 (n * szN e.oz.lo e.oz.hi) * prodN es) = min 3000 (n * (szN e.oz.lo e.oz.hi * prodN es))
    rw [← Nat.mul_assoc]
    generalize n * szN e.oz.lo e.oz.hi = m
    by_cases hle : m ≤ 3000
    · rw [show min 3000 m = m by omega]
    · rw [show min 3000 m = 3000 by omega]
      have h2 : 3000 * 1 ≤ 3000 * prodN es := Nat.mul_le_mul_left _ hpp
      have h3 : 3000 * prodN es ≤ m * prodN es := Nat.mul_le_mul_right _ (by omega)
      omega
theorem manyUp_eq : ∀ (es : List Ent) (n : Nat), OkE es → n ≤ 2001 → 0 < n → manyUp (Int.ofNat n) es = Int.ofNat (min 2001 (n * prodN es))
  | [], n, _, h, _ => by simp [manyUp, prodN]; omega
  | e :: es, n, h, hn, h0 => by
    have he := h e (by simp)
    have hs : size e.oz = Int.ofNat (szN e.oz.lo e.oz.hi) := size_ok he.1 he.2.1 he.2.2
    have hp := szN_pos he.2.1
    have hz : szN e.oz.lo e.oz.hi ≤ 41 := by unfold szN; omega
    have hm : n * szN e.oz.lo e.oz.hi ≤ 2001 * 41 := Nat.mul_le_mul hn hz
    have hm0 : 0 < n * szN e.oz.lo e.oz.hi := Nat.mul_pos h0 (Nat.pos_of_ne_zero hp)
    have h1 : manyUp (Int.ofNat n) (e :: es) = manyUp (Int.ofNat (min 2001 (n * szN e.oz.lo e.oz.hi))) es := by
      show manyUp (mn (wr .i64 (Int.ofNat n * size e.oz)) 2001) es = _
      rw [hs, show Int.ofNat n * Int.ofNat (szN e.oz.lo e.oz.hi) = Int.ofNat (n * szN e.oz.lo e.oz.hi) from rfl, wr_nat (by omega)]
      congr 1; simp only [mn, Int.ofNat_eq_natCast]; omega
    have hpp : 0 < prodN es := prodN_pos fun e' he => h e' (by simp [he])
    rw [h1, manyUp_eq es _ (fun e' he => h e' (by simp [he])) (by omega) (by omega)]
    congr 1
    show min 2001 (min 2001 (n * szN e.oz.lo e.oz.hi) * prodN es) = min 2001 (n * (szN e.oz.lo e.oz.hi * prodN es))
    rw [← Nat.mul_assoc]
    generalize n * szN e.oz.lo e.oz.hi = m
    by_cases hle : m ≤ 2001
    · rw [show min 2001 m = m by omega]
    · rw [show min 2001 m = 2001 by omega]
      have h2 : 2001 * 1 ≤ 2001 * prodN es := Nat.mul_le_mul_left _ hpp
      have h3 : 2001 * prodN es ≤ m * prodN es := Nat.mul_le_mul_right _ (by omega)
      omega
theorem okE_of {w : Int} {es : List Ent} (h : allB (entOk w) es = true) : OkE es := by
  simp only [allB, List.all_eq_true] at h
  intro e he
  have := h e he
  simp only [entOk, Bool.and_eq_true, between_iff] at this
  exact this.2
theorem fault_eq (S : Slate) : faultRef S = checkSlate S := by
  unfold faultRef checkSlate
  split
  · rfl
  split
  · rfl
  · rename_i h2
    simp only [Bool.or_eq_true, not_or, Bool.not_eq_true', Bool.not_eq_false] at h2
    have ho := okE_of h2.1.2
    have h1 := manyRef_eq S.es 1 ho (by omega) (by omega)
    have h2 := manyUp_eq S.es 1 ho (by omega) (by omega)
    rw [ofNat_1] at h1 h2
    rw [h1, h2]
    have : (decide ((2000 : Int) < Int.ofNat (min 3000 (1 * prodN S.es)))) = decide ((2000 : Int) < Int.ofNat (min 2001 (1 * prodN S.es))) := by
      simp only [Int.ofNat_eq_natCast]
      congr 1
      simp only [eq_iff_iff]; omega
    rw [this]
theorem many_of_check {S : Slate} (h : checkSlate S = 0) : prodN S.es ≤ 2000 ∧ manyRef 1 S.es = Int.ofNat (prodN S.es) := by
  have hG := good_of_check h
  have h1 := manyRef_eq S.es 1 hG.oe (by omega) (by omega)
  have h2 := manyUp_eq S.es 1 hG.oe (by omega) (by omega)
  rw [ofNat_1] at h1 h2
  unfold checkSlate at h
  split at h
  · cases h
  split at h
  · cases h
  split at h
  · cases h
  rename_i h3
  rw [h2] at h3
  simp only [decide_eq_true_eq, Int.ofNat_eq_natCast] at h3
  have : prodN S.es ≤ 2000 := by omega
  refine ⟨this, ?_⟩
  rw [h1]; congr 1; omega
end Go.Proofs.Ytlhfeiacigmliaa

/- The wash-house's soap: what the functions compute: all ounces are gone through. -/
namespace Go.Proofs.Ytlhfeiacigmliaa
open Go
set_option maxRecDepth 10000

theorem Under.low {N : Nat} {O : List AObj} {o : AObj} {M : Nat} {Q : List AObj} (h : Under N O o M Q) {b : Nat} (hb : b < N) (p : Nat) (q : Nat → Nat) : St.get ⟨M, Q, p, q⟩ b = St.get ⟨N, O, p, q⟩ b := by
  obtain ⟨l, h1, h2⟩ := h
  subst h1 h2
  simp only [St.get]
  rw [if_pos (by omega), if_pos hb, List.getElem?_append_right (by omega), show N + 1 + l.length - 1 - b - l.length = (N - 1 - b) + 1 by omega]
  simp
theorem nthO_cI {L : List Int} {i : Nat} {x : Int} (h : L[i]? = some x) : nthO (some (.cells (cellsOf cI L))) (na 0 (Nat.mul i 1)) = some (i64 x) := by
  have hd := drop_cI h
  rw [show Nat.mul i 1 = i from Nat.mul_one i] at hd
  rw [show na 0 (Nat.mul i 1) = i by simp [na]]
  simp only [nthO]
  have : (cellsOf cI L)[i]? = ((cellsOf cI L).drop i)[0]? := by simp
  rw [this, hd]; rfl
theorem storeP_cI {L : List Int} {i : Nat} (h : i < L.length) (s : St) (b : Nat) (v : Int) : storeP (some (.cells (cellsOf cI L))) s b (na 0 (Nat.mul i 1)) [i64 v] = some (s.set b (.cells (cellsOf cI (L.set i v)))) := by
  rw [show na 0 (Nat.mul i 1) = i by simp [na]]
  have hl : (cellsOf cI L).length = L.length := by rw [cells_length (sz := 1) (fun _ => rfl)]; omega
  simp only [storeP, hl, List.length_singleton, splice]
  rw [if_pos (by omega)]
  congr 4
  clear h hl
  induction L generalizing i with
  | nil => rfl
  | cons a l ih =>
    cases i with
    | zero => rfl
    | succ i =>
      have := ih (i := i)
      simp only [cells_cons, cI, List.cons_append, List.nil_append, List.set_cons_succ] at this ⊢
      rw [this]
theorem l109h (es : List Ent) (L : List Int) (hE : es.length < 1000000) (hL : L.length = es.length) (hF : OkF es) (nb : Nat) (cap : Option Nat) (N : Nat) (O : List AObj) (p : Nat) (q : Nat → Nat) (hnb : nb < N) (hg : St.get ⟨N, O, p, q⟩ nb = some (.cells (cellsOf cI L))) : ∀ (k i : Nat) (a : Nat → Int) (M : Nat) (Q : List AObj), i + k = es.length → Under N O (.cells (c6 a)) M Q →
   ∃ M' Q', Under N O (.cells (c6 fun j => owedUp (a j) (Int.ofNat j) (es.drop i) (L.drop i))) M' Q' ∧
   lim tbl (.loop a109_l0 37 ⟨[1, 4, 8, 9, 10], [4], []⟩ [.hsl nb 0 (lenOf es) cap, .ptr N 0, sl cE es, i64 (Int.ofNat (lenOf es)), i64 (Int.ofNat i)]) ⟨M, Q, p, q⟩ = some (.exit 0, [.ptr N 0], ⟨M', Q', p, q⟩) := by
  intro k
  induction k with
  | zero =>
    intro i a M Q hi hU
    refine ⟨M, Q, ?_, ?_⟩
    · rw [List.drop_eq_nil_of_le (by omega)]; exact hU
    · rw [lim_loop]
      (try simp only [go_sem, ↓reduceIte, Nat.reduceAdd, Nat.reduceEqDiff, Nat.reduceLT, Nat.reduceLeDiff, Nat.reduceBEq, Int.reduceEq, Int.reduceLT, Int.reduceLE]); (repeat ((first | (rw [lt_yes]; rotate_left; (first | omega | (simp [lenOf, app]; omega) | (simp only [lenOf]; omega))) | (rw [lt_no]; rotate_left; (first | omega | (simp [lenOf, app]; omega) | (simp only [lenOf]; omega))) | (rw [idxA_at]; rotate_left; (first | omega | (simp [lenOf, app]; omega) | (simp only [lenOf]; omega))) | (rw [wr_up]; rotate_left; (first | omega | (simp [lenOf, app]; omega) | (simp only [lenOf]; omega))) | ((first | rw [drop_cI] | rw [drop_cE] | rw [drop_cS] | rw [drop_cP] | rw [drop_cR]); rotate_left; assumption)); try simp only [go_sem, ↓reduceIte, Nat.reduceAdd, Nat.reduceEqDiff, Nat.reduceLT, Nat.reduceLeDiff, Nat.reduceBEq, Int.reduceEq, Int.reduceLT, Int.reduceLE]))
  | succ k ih =>
    intro i a M Q hi hU
    have hlt : i < es.length := by omega
    obtain ⟨e, he, hd⟩ := getElem_drop hlt
    obtain ⟨x, hx, hd'⟩ := getElem_drop (show i < L.length by omega)
    obtain ⟨f, t, hf, ht, h1, h2⟩ := hF e (List.mem_of_getElem? he)
    obtain ⟨fr, to, ⟨lo, hi'⟩⟩ := e
    simp only at h1 h2
    subst h1 h2
    rw [hd, hd']
    have nx := nthO_cI hx
    have b0 := (hU.push (.cells [i64 (Int.ofNat f), i64 (Int.ofNat t), i64 lo, i64 hi'])).low hnb p q
    rw [hg] at b0
    have g1 := hU.get1 (.cells [i64 (Int.ofNat f), i64 (Int.ofNat t), i64 lo, i64 hi']) p q
    obtain ⟨Q1, hU1, _, s1⟩ := hU.set (.cells (c6 (put a f (wr .i64 (Int.add (a f) x)))))
    have g2 := hU1.get1 (.cells [i64 (Int.ofNat f), i64 (Int.ofNat t), i64 lo, i64 hi']) p q
    have b1 := (hU1.push (.cells [i64 (Int.ofNat f), i64 (Int.ofNat t), i64 lo, i64 hi'])).low hnb p q
    rw [hg] at b1
    obtain ⟨Q2, hU2, _, s2⟩ := hU1.set (.cells (c6 (put (put a f (wr .i64 (Int.add (a f) x))) t (wr .i64 (Int.sub (put a f (wr .i64 (Int.add (a f) x)) t) x)))))
    obtain ⟨M', Q', hU', h'⟩ := ih (i + 1) _ _ _ (by omega) (hU2.push (.cells [i64 (Int.ofNat f), i64 (Int.ofNat t), i64 lo, i64 hi']))
    refine ⟨M', Q', ?_, ?_⟩
    · have : (fun j => owedUp (put (put a f (wr .i64 (Int.add (a f) x))) t (wr .i64 (Int.sub (put a f (wr .i64 (Int.add (a f) x)) t) x)) j) (Int.ofNat j) (es.drop (i + 1)) (L.drop (i + 1)))
        = (fun j => owedUp (a j) (Int.ofNat j) (⟨Int.ofNat f, Int.ofNat t, ⟨lo, hi'⟩⟩ :: es.drop (i + 1)) (x :: L.drop (i + 1))) := by
        funext j
        rw [owedUp]
        simp only [put, Int.ofNat.injEq, fold_add, fold_sub]
        congr 1
        by_cases hj1 : j = t
        · subst hj1
          by_cases hj2 : j = f
          · subst hj2; simp
          · simp [hj2, Ne.symm hj2]
        · by_cases hj2 : j = f
          · subst hj2; simp [hj1, Ne.symm hj1]
          · simp [hj1, hj2, Ne.symm hj1, Ne.symm hj2]
      rw [← this]; exact hU'
    · rw [lim_loop]
      generalize hR : some (_, _, _) = R at h' ⊢
      have n1 := nthO_c6 a hf
      have n2 := nthO_c6 (put a f (wr .i64 (Int.add (a f) x))) ht
      have p1 := fun s b => storeP_c6_1 s b a (wr .i64 (Int.add (a f) x)) hf
      have p2 := fun s b => storeP_c6_1 s b (put a f (wr .i64 (Int.add (a f) x))) (wr .i64 (Int.sub (put a f (wr .i64 (Int.add (a f) x)) t) x)) ht
      (try simp only [go_sem, ↓reduceIte, Nat.reduceAdd, Nat.reduceEqDiff, Nat.reduceLT, Nat.reduceLeDiff, Nat.reduceBEq, Int.reduceEq, Int.reduceLT, Int.reduceLE]); (repeat ((first | rw [g1] | rw [b0] | rw [nx] | rw [n1] | rw [p1] | rw [s1] | rw [g2] | rw [b1] | rw [n2] | rw [p2] | rw [s2] | (rw [lt_yes]; rotate_left; (first | omega | (simp [lenOf, app]; omega) | (simp only [lenOf]; omega))) | (rw [lt_no]; rotate_left; (first | omega | (simp [lenOf, app]; omega) | (simp only [lenOf]; omega))) | (rw [idxA_at]; rotate_left; (first | omega | (simp [lenOf, app]; omega) | (simp only [lenOf]; omega))) | (rw [wr_up]; rotate_left; (first | omega | (simp [lenOf, app]; omega) | (simp only [lenOf]; omega))) | ((first | rw [drop_cI] | rw [drop_cE] | rw [drop_cS] | rw [drop_cP] | rw [drop_cR]); rotate_left; assumption)); try simp only [go_sem, ↓reduceIte, Nat.reduceAdd, Nat.reduceEqDiff, Nat.reduceLT, Nat.reduceLeDiff, Nat.reduceBEq, Int.reduceEq, Int.reduceLT, Int.reduceLE]))
      exact h'
theorem get_lt {s : St} {b : Nat} {o : AObj} (h : s.get b = some o) : b < s.n := by
  unfold St.get at h; split at h
  · assumption
  · cases h
theorem k109h (S : Slate) (L : List Int) (hE : S.es.length < 1000000) (hL : L.length = S.es.length) (hF : OkF S.es) (nb : Nat) (cap : Option Nat) (s : St) (hg : s.get nb = some (.cells (cellsOf cI L))) : lim tbl (.call 109 [vSl S, .hsl nb 0 (lenOf S.es) cap]) s = some (.ret, [.agg (c6 (owV S.es L))], s) := by
  obtain ⟨w, es, ss⟩ := S
  rw [lim_call tbl_109]; obtain ⟨N, O, p, q⟩ := s
  have hnb : nb < N := get_lt hg
  simp only at hE hL hF
  have hnb1 : nb < na N 1 := by simp [na]; omega
  have hg1 : St.get ⟨na N 1, .cells (c6 fun _ => 0) :: O, p, q⟩ nb = some (.cells (cellsOf cI L)) := by
    rw [(Under.init N O (.cells (c6 fun _ => 0))).low hnb]; exact hg
  obtain ⟨M, Q, hU, h0⟩ := l109h es L hE hL hF nb cap N O p q hnb hg es.length 0 (fun _ => 0) (na N 1) (.cells (c6 fun _ => 0) :: O) (by omega) (Under.init ..)
  rw [ofNat_0] at h0
  rw [List.drop_zero, List.drop_zero] at hU
  change Under _ _ (.cells (c6 (owV es L))) _ _ at hU
  obtain ⟨Q1, hU1, s1, _⟩ := hU.set (.cells (c6 (owV es L)))
  have g0 := hU.get p q
  have g1 := hU1.get p q
  have ho := hU1.old p q
  have hz : c6 (fun _ => 0) = [i64 0, i64 0, i64 0, i64 0, i64 0, i64 0] := rfl
  rw [hz] at h0
  simp only
  (try simp only [go_sem, ↓reduceIte, Nat.reduceAdd, Nat.reduceEqDiff, Nat.reduceLT, Nat.reduceLeDiff, Nat.reduceBEq, Int.reduceEq, Int.reduceLT, Int.reduceLE]); (repeat ((first | rw [h0] | rw [g0] | rw [s1] | rw [g1] | rw [ho] | (rw [lt_yes]; rotate_left; (first | omega | (simp [lenOf, app]; omega) | (simp only [lenOf]; omega))) | (rw [lt_no]; rotate_left; (first | omega | (simp [lenOf, app]; omega) | (simp only [lenOf]; omega))) | (rw [idxA_at]; rotate_left; (first | omega | (simp [lenOf, app]; omega) | (simp only [lenOf]; omega))) | (rw [wr_up]; rotate_left; (first | omega | (simp [lenOf, app]; omega) | (simp only [lenOf]; omega))) | ((first | rw [drop_cI] | rw [drop_cE] | rw [drop_cS] | rw [drop_cP] | rw [drop_cR]); rotate_left; assumption)); try simp only [go_sem, ↓reduceIte, Nat.reduceAdd, Nat.reduceEqDiff, Nat.reduceLT, Nat.reduceLeDiff, Nat.reduceBEq, Int.reduceEq, Int.reduceLT, Int.reduceLE]))

end Go.Proofs.Ytlhfeiacigmliaa

/- The wash-house's soap: what the functions compute: all ounces are gone through. -/
namespace Go.Proofs.Ytlhfeiacigmliaa
open Go
set_option maxRecDepth 10000

/-- All ounces of some entries, in the program's order. -/
def rngUp (v : Int) : Nat → List Int
  | 0 => []
  | m + 1 => v :: rngUp (v + 1) m
def ozs : List Ent → List (List Int)
  | [] => [[]]
  | e :: es => (rngUp e.oz.lo (szN e.oz.lo e.oz.hi)).flatMap fun v => (ozs es).map (v :: ·)
def iterL {σ : Type} (go : σ → List Int → Bool) (step : σ → List Int → σ) : List (List Int) → σ → σ × Bool
  | [], x => (x, true)
  | L :: l, x => if go x L then iterL go step l (step x L) else (step x L, false)
theorem iterL_append {σ : Type} (go : σ → List Int → Bool) (step : σ → List Int → σ) : ∀ (a b : List (List Int)) (x : σ), iterL go step (a ++ b) x = if (iterL go step a x).2 then iterL go step b (iterL go step a x).1 else iterL go step a x
  | [], b, x => by simp [iterL]
  | L :: a, b, x => by
    simp only [List.cons_append, iterL]
    split
    · exact iterL_append go step a b _
    · simp
theorem areOz_take {es : List Ent} {L : List Int} {i : Nat} {e : Ent} {v : Int} (he : es[i]? = some e) (hi : i < L.length) (h : areOz (es.take i) (L.take i) = true) (hv : within v e.oz.lo e.oz.hi = true) : areOz (es.take (i + 1)) ((L.set i v).take (i + 1)) = true := by
  induction i generalizing es L with
  | zero =>
    cases es with
    | nil => simp at he
    | cons e' es =>
      simp at he; subst he
      cases L with
      | nil => simp at hi
      | cons a L => simp [areOz, hv]
  | succ i ih =>
    cases es with
    | nil => simp at he
    | cons e' es =>
      cases L with
      | nil => simp at hi
      | cons a L =>
        simp only [List.take_succ_cons, areOz, Bool.and_eq_true] at h
        have := ih (es := es) (L := L) (by simpa using he) (by simpa using hi) h.2
        simp only [List.set_cons_succ, List.take_succ_cons, areOz, h.1, Bool.true_and]
        exact this
theorem take_set_self (L : List Int) (i : Nat) (v : Int) : (L.set i v).take i = L.take i := by
  rw [List.take_set, List.set_eq_of_length_le (by simp; omega)]
theorem take_succ_set {L : List Int} {i : Nat} (v : Int) (h : i < L.length) : (L.set i v).take (i + 1) = L.take i ++ [v] := by
  rw [List.take_succ_eq_append_getElem (by simpa using h), take_set_self]; simp

theorem iterL_K {σ : Type} (go : σ → List Int → Bool) (step : σ → List Int → σ) (K : σ → Nat) (hK : ∀ x L, K (step x L) ≤ K x + 1) : ∀ (l : List (List Int)) (x : σ), K (iterL go step l x).1 ≤ K x + l.length
  | [], x => by simp [iterL]
  | L :: l, x => by
    have h1 := hK x L
    have h2 := iterL_K go step K hK l (step x L)
    simp only [iterL, List.length_cons]
    split
    · omega
    · simp only; omega
section
variable {σ : Type} (K : σ → Nat) (B : Nat) (J : σ → List Int → St → Prop) (E : σ → St → Prop) (go : σ → List Int → Bool) (step : σ → List Int → σ)
  (w : Int) (es : List Ent) (ss : List Say) (b nb c3 c4 : Nat)
/-- What a loop over all ounces needs. -/
structure IterOk : Prop where
  len : es.length < 1000000
  oe : OkE es
  of : OkF es
  fr : ∀ x now s, J x now s → now.length = es.length ∧ s.get nb = some (.cells (cellsOf cI now)) ∧ s.get c3 = some (.cells [.hsl nb 0 (lenOf es) (some (lenOf es))]) ∧
    s.get c4 = some (.cells [.fn (.func 131) [] [.vref [i64 w, sl cE es, sl cS ss], .vref [.yld b], .ptr c3 0, .ptr c4 0]])
  set : ∀ x now s i v, i < es.length → J x now s → J x (now.set i v) (s.set nb (.cells (cellsOf cI (now.set i v))))
  stepK : ∀ x L, K (step x L) ≤ K x + 1
  round : ∀ x now s, J x now s → K x < B → areOz es now = true → ∃ s', lim tbl (.round b [.agg (c6 (owV es now))]) s = some (.ret, [.bool (go x now)], s') ∧ if go x now then J (step x now) now s' else E (step x now) s'
/-- What choose does from an entry on. -/
def Chosen (i : Nat) (x : σ) (now : List Int) (s : St) (lists : List (List Int)) : Prop :=
  ∃ s', lim tbl (.call 131 [i64 (Int.ofNat i), .vref [i64 w, sl cE es, sl cS ss], .vref [.yld b], .ptr c3 0, .ptr c4 0]) s = some (.ret, [.bool (iterL go step lists x).2], s') ∧
    if (iterL go step lists x).2 then ∃ now', J (iterL go step lists x).1 now' s' ∧ now'.take i = now.take i else E (iterL go step lists x).1 s'
theorem l131 (h : IterOk K B J E go step w es ss b nb c3 c4) (i : Nat) (lo hi : Int) (a a' : Int) (he : es[i]? = some ⟨a, a', ⟨lo, hi⟩⟩)
    (ih : ∀ x now s, J x now s → areOz (es.take (i + 1)) (now.take (i + 1)) = true → K x + ((ozs (es.drop (i + 1))).map (now.take (i + 1) ++ ·)).length ≤ B → Chosen J E go step w es ss b c3 c4 (i + 1) x now s ((ozs (es.drop (i + 1))).map (now.take (i + 1) ++ ·))) :
    ∀ (m : Nat) (v : Int) (x : σ) (now : List Int) (s : St), v + m = hi + 1 → lo ≤ v → J x now s → areOz (es.take i) (now.take i) = true → K x + ((rngUp v m).flatMap fun u => (ozs (es.drop (i + 1))).map (now.take i ++ u :: ·)).length ≤ B →
    ∃ s', (if (iterL go step ((rngUp v m).flatMap fun u => (ozs (es.drop (i + 1))).map (now.take i ++ u :: ·)) x).2
       then lim tbl (.loop a131_l0 45 ⟨[0, 1, 3, 4, 7], [], [6]⟩ [i64 (Int.ofNat i), .vref [i64 w, sl cE es, sl cS ss], .ptr c3 0, .ptr c4 0, i64 v]) s = some (.exit 0, [], s') ∧
        ∃ now', J (iterL go step ((rngUp v m).flatMap fun u => (ozs (es.drop (i + 1))).map (now.take i ++ u :: ·)) x).1 now' s' ∧ now'.take i = now.take i
       else lim tbl (.loop a131_l0 45 ⟨[0, 1, 3, 4, 7], [], [6]⟩ [i64 (Int.ofNat i), .vref [i64 w, sl cE es, sl cS ss], .ptr c3 0, .ptr c4 0, i64 v]) s = some (.ret, [.bool false], s') ∧
        E (iterL go step ((rngUp v m).flatMap fun u => (ozs (es.drop (i + 1))).map (now.take i ++ u :: ·)) x).1 s') := by
  have hlt : i < es.length := by
    rcases Nat.lt_or_ge i es.length with h | h
    · exact h
    · rw [List.getElem?_eq_none h] at he; cases he
  have hok := h.oe _ (List.mem_of_getElem? he)
  simp only at hok
  have hlen := h.len
  intro m
  induction m with
  | zero =>
    intro v x now s hv hlo hJ hp hB
    refine ⟨s, ?_⟩
    simp only [rngUp, List.flatMap_nil, iterL, if_true]
    have hn : ¬ v ≤ hi := by omega
    refine ⟨?_, now, hJ, rfl⟩
    rw [lim_loop]
    (try simp only [go_sem, ↓reduceIte, Nat.reduceAdd, Nat.reduceEqDiff, Nat.reduceLT, Nat.reduceLeDiff, Nat.reduceBEq, Int.reduceEq, Int.reduceLT, Int.reduceLE]); (repeat ((first | rw [le_n hn] | (rw [lt_yes]; rotate_left; (first | omega | (simp [lenOf, app]; omega) | (simp only [lenOf]; omega))) | (rw [lt_no]; rotate_left; (first | omega | (simp [lenOf, app]; omega) | (simp only [lenOf]; omega))) | (rw [idxA_at]; rotate_left; (first | omega | (simp [lenOf, app]; omega) | (simp only [lenOf]; omega))) | (rw [wr_up]; rotate_left; (first | omega | (simp [lenOf, app]; omega) | (simp only [lenOf]; omega))) | ((first | rw [drop_cI] | rw [drop_cE] | rw [drop_cS] | rw [drop_cP] | rw [drop_cR]); rotate_left; assumption)); try simp only [go_sem, ↓reduceIte, Nat.reduceAdd, Nat.reduceEqDiff, Nat.reduceLT, Nat.reduceLeDiff, Nat.reduceBEq, Int.reduceEq, Int.reduceLT, Int.reduceLE]))
  | succ m ihm =>
    intro v x now s hv hlo hJ hp hB
    have hn : v ≤ hi := by omega
    have hwi : within v lo hi = true := within_iff.mpr ⟨hlo, hn⟩
    obtain ⟨hnl, g1, g2, g3⟩ := h.fr _ _ _ hJ
    have st := fun s b => storeP_cI (L := now) (i := i) (by omega) s b v
    have hJ2 := h.set x now s i v hlt hJ
    obtain ⟨_, g4, g5, g6⟩ := h.fr _ _ _ hJ2
    have hp2 := areOz_take he (by omega) hp hwi
    rw [rngUp, List.flatMap_cons, List.length_append] at hB
    have hmap : (fun l => (now.take i ++ [v]) ++ l) = fun l => now.take i ++ v :: l := by funext l; simp
    have hBx : K x + ((ozs (es.drop (i + 1))).map ((now.set i v).take (i + 1) ++ ·)).length ≤ B := by
      simp only [List.length_map] at hB ⊢; omega
    have hKy := iterL_K go step K h.stepK ((ozs (es.drop (i + 1))).map fun l => now.take i ++ v :: l) x
    obtain ⟨s1, hc, hr⟩ := ih x (now.set i v) _ hJ2 hp2 hBx
    rw [take_succ_set v (by omega)] at hc hr
    rw [hmap] at hc hr
    rw [rngUp]
    simp only [List.flatMap_cons, iterL_append]
    generalize hX : iterL go step ((ozs (es.drop (i + 1))).map fun l => now.take i ++ v :: l) x = X at hc hr hKy
    obtain ⟨y, c⟩ := X
    simp only at hc hr hKy
    have hw : wr .i64 (Int.add v 1) = v + 1 := by rw [fold_add, wr_in] <;> omega
    clear hJ2 hp2
    generalize now.set i v = nv at st g4 g5 g6 hc
    cases c with
    | true =>
      simp only [if_true] at hr
      obtain ⟨now', hJ', ht'⟩ := hr
      have ht : now'.take i = now.take i := by
        have := congrArg (List.take i) ht'
        rw [List.take_take, show min i (i + 1) = i by omega, List.take_left' (by simp; omega)] at this
        exact this
      obtain ⟨s', hs'⟩ := ihm (v + 1) y now' s1 (by omega) (by omega) hJ' (by rw [ht]; exact hp) (by rw [ht]; omega)
      refine ⟨s', ?_⟩
      rw [ht] at hs'
      simp only [if_true]
      have hstep : lim tbl (.loop a131_l0 45 ⟨[0, 1, 3, 4, 7], [], [6]⟩ [i64 (Int.ofNat i), .vref [i64 w, sl cE es, sl cS ss], .ptr c3 0, .ptr c4 0, i64 v]) s
          = lim tbl (.loop a131_l0 45 ⟨[0, 1, 3, 4, 7], [], [6]⟩ [i64 (Int.ofNat i), .vref [i64 w, sl cE es, sl cS ss], .ptr c3 0, .ptr c4 0, i64 (v + 1)]) s1 := by
        rw [lim_loop]
        generalize hR : lim tbl (.loop _ _ _ _) s1 = R
        (try simp only [go_sem, ↓reduceIte, Nat.reduceAdd, Nat.reduceEqDiff, Nat.reduceLT, Nat.reduceLeDiff, Nat.reduceBEq, Int.reduceEq, Int.reduceLT, Int.reduceLE]); (repeat ((first | rw [le_y hn] | rw [g1] | rw [g2] | rw [st] | rw [g4] | rw [g5] | rw [g6] | rw [hc] | rw [hw] | (rw [lt_yes]; rotate_left; (first | omega | (simp [lenOf, app]; omega) | (simp only [lenOf]; omega))) | (rw [lt_no]; rotate_left; (first | omega | (simp [lenOf, app]; omega) | (simp only [lenOf]; omega))) | (rw [idxA_at]; rotate_left; (first | omega | (simp [lenOf, app]; omega) | (simp only [lenOf]; omega))) | (rw [wr_up]; rotate_left; (first | omega | (simp [lenOf, app]; omega) | (simp only [lenOf]; omega))) | ((first | rw [drop_cI] | rw [drop_cE] | rw [drop_cS] | rw [drop_cP] | rw [drop_cR]); rotate_left; assumption)); try simp only [go_sem, ↓reduceIte, Nat.reduceAdd, Nat.reduceEqDiff, Nat.reduceLT, Nat.reduceLeDiff, Nat.reduceBEq, Int.reduceEq, Int.reduceLT, Int.reduceLE]))
        exact hR
      rw [hstep]
      exact hs'
    | false =>
      simp only [Bool.false_eq_true, if_false] at hr ⊢
      refine ⟨s1, ?_, hr⟩
      rw [lim_loop]
      (try simp only [go_sem, ↓reduceIte, Nat.reduceAdd, Nat.reduceEqDiff, Nat.reduceLT, Nat.reduceLeDiff, Nat.reduceBEq, Int.reduceEq, Int.reduceLT, Int.reduceLE]); (repeat ((first | rw [le_y hn] | rw [g1] | rw [g2] | rw [st] | rw [g4] | rw [g5] | rw [g6] | rw [hc] | rw [hw] | (rw [lt_yes]; rotate_left; (first | omega | (simp [lenOf, app]; omega) | (simp only [lenOf]; omega))) | (rw [lt_no]; rotate_left; (first | omega | (simp [lenOf, app]; omega) | (simp only [lenOf]; omega))) | (rw [idxA_at]; rotate_left; (first | omega | (simp [lenOf, app]; omega) | (simp only [lenOf]; omega))) | (rw [wr_up]; rotate_left; (first | omega | (simp [lenOf, app]; omega) | (simp only [lenOf]; omega))) | ((first | rw [drop_cI] | rw [drop_cE] | rw [drop_cS] | rw [drop_cP] | rw [drop_cR]); rotate_left; assumption)); try simp only [go_sem, ↓reduceIte, Nat.reduceAdd, Nat.reduceEqDiff, Nat.reduceLT, Nat.reduceLeDiff, Nat.reduceBEq, Int.reduceEq, Int.reduceLT, Int.reduceLE]))
theorem k131 (h : IterOk K B J E go step w es ss b nb c3 c4) : ∀ (k i : Nat) (x : σ) (now : List Int) (s : St), i + k = es.length → J x now s → areOz (es.take i) (now.take i) = true → K x + ((ozs (es.drop i)).map (now.take i ++ ·)).length ≤ B →
    Chosen J E go step w es ss b c3 c4 i x now s ((ozs (es.drop i)).map (now.take i ++ ·)) := by
  intro k
  induction k with
  | zero =>
    intro i x now s hi hJ hp hB
    have hB1 : K x < B := by
      rw [List.drop_eq_nil_of_le (by omega)] at hB; simp [ozs] at hB; omega
    obtain ⟨hnl, g1, g2, g3⟩ := h.fr _ _ _ hJ
    rw [List.take_of_length_le (by omega), List.take_of_length_le (by omega)] at hp
    obtain ⟨s', hr, hs'⟩ := h.round x now s hJ hB1 hp
    have h109 := k109h ⟨w, es, ss⟩ now h.len hnl h.of nb (some (lenOf es)) s g1
    simp only at h109
    have hio : Int.ofNat i = Int.ofNat (lenOf es) := by simp only [lenOf]; congr 1
    refine ⟨s', ?_, ?_⟩
    · rw [List.drop_eq_nil_of_le (by omega), List.take_of_length_le (by omega)]
      simp only [ozs, List.map_cons, List.map_nil, List.append_nil, iterL]
      have hb : (if go x now then (step x now, true) else (step x now, false)).2 = go x now := by cases go x now <;> rfl
      rw [hb, lim_call tbl_131]
      generalize owV es now = A at h109 hr
      generalize go x now = g at hr
      (try simp only [go_sem, ↓reduceIte, Nat.reduceAdd, Nat.reduceEqDiff, Nat.reduceLT, Nat.reduceLeDiff, Nat.reduceBEq, Int.reduceEq, Int.reduceLT, Int.reduceLE]); (repeat ((first | rw [eq_y hio] | rw [g2] | rw [h109] | rw [hr] | (rw [lt_yes]; rotate_left; (first | omega | (simp [lenOf, app]; omega) | (simp only [lenOf]; omega))) | (rw [lt_no]; rotate_left; (first | omega | (simp [lenOf, app]; omega) | (simp only [lenOf]; omega))) | (rw [idxA_at]; rotate_left; (first | omega | (simp [lenOf, app]; omega) | (simp only [lenOf]; omega))) | (rw [wr_up]; rotate_left; (first | omega | (simp [lenOf, app]; omega) | (simp only [lenOf]; omega))) | ((first | rw [drop_cI] | rw [drop_cE] | rw [drop_cS] | rw [drop_cP] | rw [drop_cR]); rotate_left; assumption)); try simp only [go_sem, ↓reduceIte, Nat.reduceAdd, Nat.reduceEqDiff, Nat.reduceLT, Nat.reduceLeDiff, Nat.reduceBEq, Int.reduceEq, Int.reduceLT, Int.reduceLE]))
    · rw [List.drop_eq_nil_of_le (by omega), List.take_of_length_le (by omega)]
      simp only [ozs, List.map_cons, List.map_nil, List.append_nil, iterL]
      cases hg : go x now with
      | true => rw [hg] at hs'; simp only [if_true] at hs' ⊢; exact ⟨now, hs', by rw [List.take_of_length_le (by omega)]⟩
      | false => rw [hg] at hs'; simpa using hs'
  | succ k ih =>
    intro i x now s hi hJ hp hB
    have hlt : i < es.length := by omega
    obtain ⟨e, he, hd⟩ := getElem_drop hlt
    have hok := h.oe _ (List.mem_of_getElem? he)
    obtain ⟨a, a', ⟨lo, hi'⟩⟩ := e
    simp only at hok
    have hlen := h.len
    have hm : ((ozs (es.drop i)).map (now.take i ++ ·)) = (rngUp lo (szN lo hi')).flatMap fun u => (ozs (es.drop (i + 1))).map (now.take i ++ u :: ·) := by
      rw [hd, ozs]
      simp only [List.map_flatMap, List.map_map]
      rfl
    obtain ⟨s', hs'⟩ := l131 K B J E go step w es ss b nb c3 c4 h i lo hi' a a' he (fun x now s hJ hp hB => ih (i + 1) x now s (by omega) hJ hp hB) (szN lo hi') lo x now s (by unfold szN; omega) (by omega) hJ hp (by rw [← hm]; exact hB)
    have hne : ¬ Int.ofNat i = Int.ofNat (lenOf es) := by
      intro h; have := Int.ofNat.inj h; simp only [lenOf] at this; omega
    unfold Chosen
    rw [hm]
    generalize iterL go step ((rngUp lo (szN lo hi')).flatMap fun u => (ozs (es.drop (i + 1))).map (now.take i ++ u :: ·)) x = X at hs'
    obtain ⟨y, c⟩ := X
    refine ⟨s', ?_⟩
    cases c with
    | true =>
      simp only [if_true] at hs' ⊢
      obtain ⟨hl, hJ'⟩ := hs'
      refine ⟨?_, hJ'⟩
      rw [lim_call tbl_131]
      (try simp only [go_sem, ↓reduceIte, Nat.reduceAdd, Nat.reduceEqDiff, Nat.reduceLT, Nat.reduceLeDiff, Nat.reduceBEq, Int.reduceEq, Int.reduceLT, Int.reduceLE]); (repeat ((first | rw [eq_n hne] | rw [hl] | (rw [lt_yes]; rotate_left; (first | omega | (simp [lenOf, app]; omega) | (simp only [lenOf]; omega))) | (rw [lt_no]; rotate_left; (first | omega | (simp [lenOf, app]; omega) | (simp only [lenOf]; omega))) | (rw [idxA_at]; rotate_left; (first | omega | (simp [lenOf, app]; omega) | (simp only [lenOf]; omega))) | (rw [wr_up]; rotate_left; (first | omega | (simp [lenOf, app]; omega) | (simp only [lenOf]; omega))) | ((first | rw [drop_cI] | rw [drop_cE] | rw [drop_cS] | rw [drop_cP] | rw [drop_cR]); rotate_left; assumption)); try simp only [go_sem, ↓reduceIte, Nat.reduceAdd, Nat.reduceEqDiff, Nat.reduceLT, Nat.reduceLeDiff, Nat.reduceBEq, Int.reduceEq, Int.reduceLT, Int.reduceLE]))
    | false =>
      simp only [Bool.false_eq_true, if_false] at hs' ⊢
      obtain ⟨hl, hE'⟩ := hs'
      refine ⟨?_, hE'⟩
      rw [lim_call tbl_131]
      (try simp only [go_sem, ↓reduceIte, Nat.reduceAdd, Nat.reduceEqDiff, Nat.reduceLT, Nat.reduceLeDiff, Nat.reduceBEq, Int.reduceEq, Int.reduceLT, Int.reduceLE]); (repeat ((first | rw [eq_n hne] | rw [hl] | (rw [lt_yes]; rotate_left; (first | omega | (simp [lenOf, app]; omega) | (simp only [lenOf]; omega))) | (rw [lt_no]; rotate_left; (first | omega | (simp [lenOf, app]; omega) | (simp only [lenOf]; omega))) | (rw [idxA_at]; rotate_left; (first | omega | (simp [lenOf, app]; omega) | (simp only [lenOf]; omega))) | (rw [wr_up]; rotate_left; (first | omega | (simp [lenOf, app]; omega) | (simp only [lenOf]; omega))) | ((first | rw [drop_cI] | rw [drop_cE] | rw [drop_cS] | rw [drop_cP] | rw [drop_cR]); rotate_left; assumption)); try simp only [go_sem, ↓reduceIte, Nat.reduceAdd, Nat.reduceEqDiff, Nat.reduceLT, Nat.reduceLeDiff, Nat.reduceBEq, Int.reduceEq, Int.reduceLT, Int.reduceLE]))
end
end Go.Proofs.Ytlhfeiacigmliaa

/- The wash-house's soap: what the functions compute: is there a truth without some sayings. -/
namespace Go.Proofs.Ytlhfeiacigmliaa
open Go
set_option maxRecDepth 10000

def gO (N : Nat) (O : List AObj) (b : Nat) : Option AObj := if b < N then O[N - 1 - b]? else none
def OldO (N0 : Nat) (O0 : List AObj) (N : Nat) (O : List AObj) : Prop := N0 ≤ N ∧ O.drop (N - N0) = O0
theorem gO_lt {N : Nat} {O : List AObj} {b : Nat} {o : AObj} (h : gO N O b = some o) : b < N := by
  unfold gO at h; split at h
  · assumption
  · cases h
theorem gO_push {N : Nat} {O : List AObj} {b : Nat} {o : AObj} (h : gO N O b = some o) (o' : AObj) : gO (na N 1) (o' :: O) b = some o := by
  have hb := gO_lt h
  unfold gO at h ⊢
  rw [if_pos hb] at h
  rw [if_pos (by simp [na]; omega), show na N 1 - 1 - b = (N - 1 - b) + 1 by simp [na]; omega]
  simpa using h
theorem gO_new (N : Nat) (O : List AObj) (o : AObj) : gO (na N 1) (o :: O) N = some o := by
  unfold gO
  rw [if_pos (by simp [na]), show na N 1 - 1 - N = 0 by simp [na]]; rfl
theorem OldO.refl (N : Nat) (O : List AObj) : OldO N O N O := ⟨Nat.le_refl _, by simp⟩
theorem OldO.push {N0 : Nat} {O0 : List AObj} {N : Nat} {O : List AObj} (h : OldO N0 O0 N O) (o : AObj) : OldO N0 O0 (na N 1) (o :: O) := by
  obtain ⟨h1, h2⟩ := h
  refine ⟨by simp [na]; omega, ?_⟩
  rw [show na N 1 - N0 = (N - N0) + 1 by simp [na]; omega]; simpa using h2
theorem OldO.old {N0 : Nat} {O0 : List AObj} {N : Nat} {O : List AObj} (h : OldO N0 O0 N O) (p : Nat) (q : Nat → Nat) (p' : Nat) : Ytlhfeiacigmliaa.old ⟨N0, O0, p, q⟩ ⟨N, O, p', q⟩ = true := by
  simp only [Ytlhfeiacigmliaa.old, decide_eq_true_eq]
  exact ⟨h.1, h.2, fun _ _ => rfl⟩
theorem OldO.oldr {N0 : Nat} {O0 : List AObj} {N : Nat} {O : List AObj} (h : OldO N0 O0 N O) (p : Nat) (q : Nat → Nat) (p' k : Nat) : Ytlhfeiacigmliaa.old ⟨N0, O0, p, q⟩ ⟨N, O, p', roomC p q k⟩ = true := by
  simp only [Ytlhfeiacigmliaa.old, decide_eq_true_eq]
  exact ⟨h.1, h.2, fun x hx => roomC_old p q k x hx⟩
theorem OldO.trans {N0 : Nat} {O0 : List AObj} {N1 : Nat} {O1 : List AObj} {N : Nat} {O : List AObj} (h : OldO N0 O0 N1 O1) (h' : OldO N1 O1 N O) : OldO N0 O0 N O := by
  obtain ⟨h1, h2⟩ := h
  obtain ⟨h3, h4⟩ := h'
  refine ⟨by omega, ?_⟩
  rw [← h2, ← h4, List.drop_drop]; congr 1; omega
theorem gO_set {N : Nat} {O : List AObj} {b : Nat} {o : AObj} (h : gO N O b = some o) (o' : AObj) : ∃ O',
    (∀ p q, St.set ⟨N, O, p, q⟩ b o' = ⟨N, O', p, q⟩) ∧ (∀ o1 p q, St.set ⟨na N 1, o1 :: O, p, q⟩ b o' = ⟨na N 1, o1 :: O', p, q⟩) ∧
    gO N O' b = some o' ∧ (∀ b', b' ≠ b → gO N O' b' = gO N O b') ∧ ∀ N0 O0, OldO N0 O0 N O → N0 ≤ b → OldO N0 O0 N O' := by
  have hb := gO_lt h
  unfold gO at h
  rw [if_pos hb] at h
  have hlen : N - 1 - b < O.length := by
    rcases Nat.lt_or_ge (N - 1 - b) O.length with g | g
    · exact g
    · rw [List.getElem?_eq_none g] at h; cases h
  refine ⟨O.set (N - 1 - b) o', fun _ _ => rfl, fun o1 p q => ?_, ?_, fun b' hb' => ?_, fun N0 O0 h0 hn => ?_⟩
  · simp only [St.set, St.mk.injEq, and_self, and_true, true_and]
    rw [show na N 1 - 1 - b = (N - 1 - b) + 1 by simp [na]; omega, List.set_cons_succ]
  · unfold gO; rw [if_pos hb]; simp [hlen]
  · unfold gO
    by_cases h1 : b' < N
    · rw [if_pos h1, if_pos h1, List.getElem?_set_ne (by omega)]
    · rw [if_neg h1, if_neg h1]
  · obtain ⟨h1, h2⟩ := h0
    refine ⟨h1, ?_⟩
    rw [List.drop_set_of_lt (by omega)]; exact h2

def zerosL (n : Nat) : List Int := List.replicate n 0
theorem repl_zeros (n : Nat) : repl [i64 0] n = cellsOf cI (zerosL n) := by
  induction n with
  | zero => rfl
  | succ n ih => rw [repl, ih]; rfl
theorem mkS_at {n : Nat} (h : n < 1000000) (N : Nat) (O : List AObj) (p : Nat) (q : Nat → Nat) : mkS [i64 0] 8 (i64 (Int.ofNat n)) (i64 (Int.ofNat n)) ⟨N, O, p, q⟩ = some (.hsl N 0 n (some n), ⟨na N 1, .cells (cellsOf cI (zerosL n)) :: O, p, q⟩) := by
  unfold mkS i64
  simp only
  rw [if_pos ⟨by simp, by simp, by simp; omega, by simp; omega⟩]
  simp only [Int.ofNat_eq_natCast, Int.toNat_natCast, repl_zeros]
  rfl

@[go_sem] theorem k106 (w : Int) (es : List Ent) (ss : List Say) (s : St) : lim tbl (.call 106 [.agg [i64 w, sl cE es, sl cS ss]]) s = some (.ret, [.fn (.func 130) [] [.vref [i64 w, sl cE es, sl cS ss]]], s) := by
  rw [lim_call tbl_106]; obtain ⟨N, O, p, q⟩ := s
  (try simp only [go_sem, ↓reduceIte, Nat.reduceAdd, Nat.reduceEqDiff, Nat.reduceLT, Nat.reduceLeDiff, Nat.reduceBEq, Int.reduceEq, Int.reduceLT, Int.reduceLE]); (repeat ((first | (rw [lt_yes]; rotate_left; (first | omega | (simp [lenOf, app]; omega) | (simp only [lenOf]; omega))) | (rw [lt_no]; rotate_left; (first | omega | (simp [lenOf, app]; omega) | (simp only [lenOf]; omega))) | (rw [idxA_at]; rotate_left; (first | omega | (simp [lenOf, app]; omega) | (simp only [lenOf]; omega))) | (rw [wr_up]; rotate_left; (first | omega | (simp [lenOf, app]; omega) | (simp only [lenOf]; omega))) | ((first | rw [drop_cI] | rw [drop_cE] | rw [drop_cS] | rw [drop_cP] | rw [drop_cR]); rotate_left; assumption)); try simp only [go_sem, ↓reduceIte, Nat.reduceAdd, Nat.reduceEqDiff, Nat.reduceLT, Nat.reduceLeDiff, Nat.reduceBEq, Int.reduceEq, Int.reduceLT, Int.reduceLE]))
theorem k130 {σ : Type} {K : σ → Nat} {B : Nat} {J : σ → List Int → St → Prop} {E : σ → St → Prop} {go : σ → List Int → Bool} {step : σ → List Int → σ} {w : Int} {es : List Ent} {ss : List Say} {b : Nat} {N : Nat} {O : List AObj} {p : Nat} {q : Nat → Nat}
    (h : IterOk K B J E go step w es ss b N (na N 1) (na (na N 1) 1)) (x : σ) (hB : K x + (ozs es).length ≤ B)
    (hJ : J x (zerosL es.length) ⟨na (na (na N 1) 1) 1, .cells [.fn (.func 131) [] [.vref [i64 w, sl cE es, sl cS ss], .vref [.yld b], .ptr (na N 1) 0, .ptr (na (na N 1) 1) 0]] :: .cells [.hsl N 0 (lenOf es) (some (lenOf es))] :: .cells (cellsOf cI (zerosL (lenOf es))) :: O, p, q⟩) :
    ∃ s', lim tbl (.call 130 [.yld b, .vref [i64 w, sl cE es, sl cS ss]]) ⟨N, O, p, q⟩ = some (.ret, [.tup []], s') ∧
      if (iterL go step (ozs es) x).2 then ∃ now', J (iterL go step (ozs es) x).1 now' s' else E (iterL go step (ozs es) x).1 s' := by
  have hlen := h.len
  obtain ⟨s', hc, hr⟩ := k131 K B J E go step w es ss b N (na N 1) (na (na N 1) 1) h es.length 0 x _ _ (by omega) hJ rfl (by simpa using hB)
  have hid : (ozs (es.drop 0)).map ((zerosL es.length).take 0 ++ ·) = ozs es := by simp
  rw [hid] at hc hr
  rw [ofNat_0] at hc
  have hm := mkS_at (n := lenOf es) (by simp only [lenOf]; omega) N O p q
  refine ⟨s', ?_, ?_⟩
  · rw [lim_call tbl_130]
    generalize (iterL go step (ozs es) x).2 = r at hc
    (try simp only [go_sem, ↓reduceIte, Nat.reduceAdd, Nat.reduceEqDiff, Nat.reduceLT, Nat.reduceLeDiff, Nat.reduceBEq, Int.reduceEq, Int.reduceLT, Int.reduceLE]); (repeat ((first | rw [hm] | rw [hc] | (rw [lt_yes]; rotate_left; (first | omega | (simp [lenOf, app]; omega) | (simp only [lenOf]; omega))) | (rw [lt_no]; rotate_left; (first | omega | (simp [lenOf, app]; omega) | (simp only [lenOf]; omega))) | (rw [idxA_at]; rotate_left; (first | omega | (simp [lenOf, app]; omega) | (simp only [lenOf]; omega))) | (rw [wr_up]; rotate_left; (first | omega | (simp [lenOf, app]; omega) | (simp only [lenOf]; omega))) | ((first | rw [drop_cI] | rw [drop_cE] | rw [drop_cS] | rw [drop_cP] | rw [drop_cR]); rotate_left; assumption)); try simp only [go_sem, ↓reduceIte, Nat.reduceAdd, Nat.reduceEqDiff, Nat.reduceLT, Nat.reduceLeDiff, Nat.reduceBEq, Int.reduceEq, Int.reduceLT, Int.reduceLE]))
  · split at hr
    · rename_i h1
      rw [if_pos h1]
      obtain ⟨now', h2, _⟩ := hr
      exact ⟨now', h2⟩
    · rename_i h1
      rw [if_neg h1]; exact hr

end Go.Proofs.Ytlhfeiacigmliaa

/- The wash-house's soap: what the functions compute: is there a truth without some sayings. -/
namespace Go.Proofs.Ytlhfeiacigmliaa
open Go
set_option maxRecDepth 10000

def loop85 (w : Int) (es : List Ent) (ss : List Say) (out : List Int) (N : Nat) (st : LoopState) (pd : Option AExit) : AObj :=
  .loop ⟨st, pd, [.agg [i64 w, sl cE es, sl cS ss], sl cI out, .vref [i64 w, sl cE es, sl cS ss], .vref [sl cI out], .ptr N 0, .tup [], .agg [i64 w, sl cE es, sl cS ss],
    .fn (.func 130) [] [.vref [i64 w, sl cE es, sl cS ss]], .tup [], .tup [], .tup [], .tup [], .tup []], [8],
    .ops [⟨some 5, none, .alloc [i64 0, i64 0, i64 0, i64 0, i64 0, i64 0]⟩, ⟨none, none, .store 6 (.tmp 5) (.tmp 8)⟩], a85_l0⟩
/-- There is a truth without some sayings. -/
def possibleB (S : Slate) (out : List Int) : Bool := (ozs S.es).any fun L => rightUp (owV S.es L) out 0 S.ss
theorem iter_any (P : List Int → Bool) : ∀ (l : List (List Int)), (iterL (fun (_ : Unit) L => !P L) (fun x _ => x) l ()).2 = !l.any P
  | [] => rfl
  | L :: l => by
    simp only [iterL, List.any_cons]
    cases h : P L with
    | true => simp
    | false => simp [iter_any P l]
def J85 (w : Int) (es : List Ent) (ss : List Say) (out : List Int) (N : Nat) (O : List AObj) (p : Nat) (q : Nat → Nat) (now : List Int) (s : St) : Prop :=
  ∃ M Q, s = ⟨M, Q, p, q⟩ ∧ OldO N O M Q ∧ gO M Q N = some (.cells [.bool false]) ∧ gO M Q (na N 1) = some (loop85 w es ss out N .ready none) ∧ now.length = es.length ∧
    gO M Q (na (na N 1) 1) = some (.cells (cellsOf cI now)) ∧ gO M Q (na (na (na N 1) 1) 1) = some (.cells [.hsl (na (na N 1) 1) 0 (lenOf es) (some (lenOf es))]) ∧
    gO M Q (na (na (na (na N 1) 1) 1) 1) = some (.cells [.fn (.func 131) [] [.vref [i64 w, sl cE es, sl cS ss], .vref [.yld (na N 1)], .ptr (na (na (na N 1) 1) 1) 0, .ptr (na (na (na (na N 1) 1) 1) 1) 0]])
def E85 (w : Int) (es : List Ent) (ss : List Say) (out : List Int) (N : Nat) (O : List AObj) (p : Nat) (q : Nat → Nat) (s : St) : Prop :=
  ∃ M Q, s = ⟨M, Q, p, q⟩ ∧ OldO N O M Q ∧ gO M Q N = some (.cells [.bool true]) ∧ gO M Q (na N 1) = some (loop85 w es ss out N .done (some .ret))
theorem it85 {w : Int} {es : List Ent} {ss : List Say} {out : List Int} (hG : Good ⟨w, es, ss⟩) (ho : out.length < 1000000) (N : Nat) (O : List AObj) (p : Nat) (q : Nat → Nat) :
    IterOk (σ := Unit) (fun _ => 0) (ozs es).length (fun _ => J85 w es ss out N O p q) (fun _ => E85 w es ss out N O p q) (fun _ L => !rightUp (owV es L) out 0 ss) (fun x _ => x) w es ss (na N 1) (na (na N 1) 1) (na (na (na N 1) 1) 1) (na (na (na (na N 1) 1) 1) 1) := by
  refine ⟨by have := hG.e6; simp only at this; omega, hG.oe, hG.of, ?_, ?_, fun _ _ => by omega, ?_⟩
  · rintro _ now s ⟨M, Q, rfl, h1, h2, h3, h4, h5, h6, h7⟩
    exact ⟨h4, h5, h6, h7⟩
  · rintro _ now s i v hi ⟨M, Q, rfl, h1, h2, h3, h4, h5, h6, h7⟩
    obtain ⟨Q', s1, _, g1, g2, g3⟩ := gO_set h5 (.cells (cellsOf cI (now.set i v)))
    refine ⟨M, Q', s1 p q, g3 _ _ h1 (by simp [na]; omega), ?_, ?_, by simpa using h4, g1, ?_, ?_⟩
    · rw [g2 _ (by simp [na]; omega)]; exact h2
    · rw [g2 _ (by first | omega | (simp only [na]; omega))]; exact h3
    · rw [g2 _ (by first | omega | (simp only [na]; omega))]; exact h6
    · rw [g2 _ (by first | omega | (simp only [na]; omega))]; exact h7
  · rintro _ now s ⟨M, Q, rfl, h1, h2, h3, h4, h5, h6, h7⟩ _ _
    have h96 := fun s => k96 ⟨w, es, ss⟩ (owV es now) out (by have := hG.s5; simp only at this ⊢; omega) ho hG.os s
    simp only at h96
    have hr := lim_round (T := tbl) (l := na N 1) (args := [.agg (c6 (owV es now))]) (s := ⟨M, Q, p, q⟩) h3 rfl
    rw [hr]
    have hNM := gO_lt h3
    have ob := fun o => gO_push h3 o
    have ot := fun o => gO_push h2 o
    obtain ⟨Q1, _, s1, g1, g2, g3⟩ := gO_set h3 (loop85 w es ss out N .busy none)
    have hb1 := fun o => gO_push g1 o
    generalize owV es now = A at h96
    cases hR : rightUp A out 0 ss with
    | false =>
      rw [hR] at h96
      obtain ⟨Q2, _, s2, g4, g5, g6⟩ := gO_set g1 (loop85 w es ss out N .ready none)
      refine ⟨⟨na M 1, .cells (c6 A) :: Q2, p, q⟩, ?_, ?_⟩
      · have e1 : St.get ⟨na M 1, .cells (c6 A) :: Q, p, q⟩ (na N 1) = some (loop85 w es ss out N .ready none) := ob _
        have e2 : St.get ⟨na M 1, .cells (c6 A) :: Q1, p, q⟩ (na N 1) = some (loop85 w es ss out N .busy none) := hb1 _
        unfold loop85 at e1 e2 s1 s2
        (try simp only [go_sem, ↓reduceIte, Nat.reduceAdd, Nat.reduceEqDiff, Nat.reduceLT, Nat.reduceLeDiff, Nat.reduceBEq, Int.reduceEq, Int.reduceLT, Int.reduceLE]); (repeat ((first | rw [e1] | rw [s1] | simp only [h96] | rw [e2] | rw [s2] | (rw [lt_yes]; rotate_left; (first | omega | (simp [lenOf, app]; omega) | (simp only [lenOf]; omega))) | (rw [lt_no]; rotate_left; (first | omega | (simp [lenOf, app]; omega) | (simp only [lenOf]; omega))) | (rw [idxA_at]; rotate_left; (first | omega | (simp [lenOf, app]; omega) | (simp only [lenOf]; omega))) | (rw [wr_up]; rotate_left; (first | omega | (simp [lenOf, app]; omega) | (simp only [lenOf]; omega))) | ((first | rw [drop_cI] | rw [drop_cE] | rw [drop_cS] | rw [drop_cP] | rw [drop_cR]); rotate_left; assumption)); try simp only [go_sem, ↓reduceIte, Nat.reduceAdd, Nat.reduceEqDiff, Nat.reduceLT, Nat.reduceLeDiff, Nat.reduceBEq, Int.reduceEq, Int.reduceLT, Int.reduceLE]))
      · simp only [Bool.not_false, if_true]
        refine ⟨na M 1, _, rfl, (g6 _ _ (g3 _ _ h1 (by first | omega | (simp only [na]; omega))) (by first | omega | (simp only [na]; omega))).push _, ?_, gO_push g4 _, h4, ?_, ?_, ?_⟩
        · refine gO_push ?_ _; rw [g5 _ (by first | omega | (simp only [na]; omega)), g2 _ (by first | omega | (simp only [na]; omega))]; exact h2
        · refine gO_push ?_ _; rw [g5 _ (by first | omega | (simp only [na]; omega)), g2 _ (by first | omega | (simp only [na]; omega))]; exact h5
        · refine gO_push ?_ _; rw [g5 _ (by first | omega | (simp only [na]; omega)), g2 _ (by first | omega | (simp only [na]; omega))]; exact h6
        · refine gO_push ?_ _; rw [g5 _ (by first | omega | (simp only [na]; omega)), g2 _ (by first | omega | (simp only [na]; omega))]; exact h7
    | true =>
      rw [hR] at h96
      have k1 : gO M Q1 N = some (.cells [.bool false]) := by rw [g2 _ (by first | omega | (simp only [na]; omega))]; exact h2
      obtain ⟨Q2, _, s2, g4, g5, g6⟩ := gO_set k1 (.cells [.bool true])
      have k2 : gO M Q2 (na N 1) = some (loop85 w es ss out N .busy none) := by rw [g5 _ (by first | omega | (simp only [na]; omega))]; exact g1
      obtain ⟨Q3, _, s3, g7, g8, g9⟩ := gO_set k2 (loop85 w es ss out N .done (some .ret))
      refine ⟨⟨na M 1, .cells (c6 A) :: Q3, p, q⟩, ?_, ?_⟩
      · have e1 : St.get ⟨na M 1, .cells (c6 A) :: Q, p, q⟩ (na N 1) = some (loop85 w es ss out N .ready none) := ob _
        have e2 : St.get ⟨na M 1, .cells (c6 A) :: Q1, p, q⟩ N = some (.cells [.bool false]) := gO_push k1 _
        have e3 : St.get ⟨na M 1, .cells (c6 A) :: Q2, p, q⟩ (na N 1) = some (loop85 w es ss out N .busy none) := gO_push k2 _
        unfold loop85 at e1 e3 s1 s3
        (try simp only [go_sem, ↓reduceIte, Nat.reduceAdd, Nat.reduceEqDiff, Nat.reduceLT, Nat.reduceLeDiff, Nat.reduceBEq, Int.reduceEq, Int.reduceLT, Int.reduceLE]); (repeat ((first | rw [e1] | rw [s1] | simp only [h96] | rw [e2] | rw [s2] | rw [e3] | rw [s3] | (rw [lt_yes]; rotate_left; (first | omega | (simp [lenOf, app]; omega) | (simp only [lenOf]; omega))) | (rw [lt_no]; rotate_left; (first | omega | (simp [lenOf, app]; omega) | (simp only [lenOf]; omega))) | (rw [idxA_at]; rotate_left; (first | omega | (simp [lenOf, app]; omega) | (simp only [lenOf]; omega))) | (rw [wr_up]; rotate_left; (first | omega | (simp [lenOf, app]; omega) | (simp only [lenOf]; omega))) | ((first | rw [drop_cI] | rw [drop_cE] | rw [drop_cS] | rw [drop_cP] | rw [drop_cR]); rotate_left; assumption)); try simp only [go_sem, ↓reduceIte, Nat.reduceAdd, Nat.reduceEqDiff, Nat.reduceLT, Nat.reduceLeDiff, Nat.reduceBEq, Int.reduceEq, Int.reduceLT, Int.reduceLE]))
      · simp only [Bool.not_true, Bool.false_eq_true, if_false]
        refine ⟨na M 1, _, rfl, (g9 _ _ (g6 _ _ (g3 _ _ h1 (by first | omega | (simp only [na]; omega))) (by first | omega | (simp only [na]; omega))) (by first | omega | (simp only [na]; omega))).push _, ?_, gO_push g7 _⟩
        refine gO_push ?_ _; rw [g8 _ (by first | omega | (simp only [na]; omega))]; exact g4
theorem k85 (S : Slate) (out : List Int) (hG : Good S) (ho : out.length < 1000000) (s : St) : lim tbl (.call 85 [vSl S, sl cI out]) s = some (.ret, [.bool (possibleB S out)], s) := by
  obtain ⟨w, es, ss⟩ := S
  obtain ⟨N, O, p, q⟩ := s
  have hJ : J85 w es ss out N O p q (zerosL es.length) ⟨na (na (na (na (na N 1) 1) 1) 1) 1, .cells [.fn (.func 131) [] [.vref [i64 w, sl cE es, sl cS ss], .vref [.yld (na N 1)], .ptr (na (na (na N 1) 1) 1) 0, .ptr (na (na (na (na N 1) 1) 1) 1) 0]] ::
      .cells [.hsl (na (na N 1) 1) 0 (lenOf es) (some (lenOf es))] :: .cells (cellsOf cI (zerosL (lenOf es))) :: loop85 w es ss out N .ready none :: .cells [.bool false] :: O, p, q⟩ := by
    refine ⟨_, _, rfl, ((((OldO.refl N O).push _).push _).push _).push _ |>.push _, ?_, ?_, by simp [zerosL], ?_, ?_, ?_⟩
    · exact gO_push (gO_push (gO_push (gO_push (gO_new ..) _) _) _) _
    · exact gO_push (gO_push (gO_push (gO_new ..) _) _) _
    · exact gO_push (gO_push (gO_new ..) _) _
    · exact gO_push (gO_new ..) _
    · exact gO_new ..
  obtain ⟨s', hc, hr⟩ := k130 (it85 hG ho N O p q) () (by simp) hJ
  rw [iter_any (fun L => rightUp (owV es L) out 0 ss)] at hr
  change (if (!possibleB ⟨w, es, ss⟩ out) = true then _ else _) at hr
  rw [lim_call tbl_85]
  cases hp : possibleB ⟨w, es, ss⟩ out with
  | true =>
    rw [hp] at hr; simp only [Bool.not_true, Bool.false_eq_true, if_false] at hr
    obtain ⟨M, Q, rfl, h1, h2, h3⟩ := hr
    obtain ⟨Q1, s1, _, g1, g2, g3⟩ := gO_set h3 (loop85 w es ss out N .exhausted (some .ret))
    have e1 : St.get ⟨M, Q, p, q⟩ (na N 1) = some (loop85 w es ss out N .done (some .ret)) := h3
    have e2 : St.get ⟨M, Q1, p, q⟩ N = some (.cells [.bool true]) := by
      have : gO M Q1 N = some (.cells [.bool true]) := by rw [g2 _ (by first | omega | (simp only [na]; omega))]; exact h2
      exact this
    have hold := (g3 _ _ h1 (by first | omega | (simp only [na]; omega))).old p q p
    unfold loop85 at hc e1 s1
    (try simp only [go_sem, ↓reduceIte, Nat.reduceAdd, Nat.reduceEqDiff, Nat.reduceLT, Nat.reduceLeDiff, Nat.reduceBEq, Int.reduceEq, Int.reduceLT, Int.reduceLE]); (repeat ((first | rw [hc] | rw [e1] | rw [s1] | rw [e2] | rw [hold] | (rw [lt_yes]; rotate_left; (first | omega | (simp [lenOf, app]; omega) | (simp only [lenOf]; omega))) | (rw [lt_no]; rotate_left; (first | omega | (simp [lenOf, app]; omega) | (simp only [lenOf]; omega))) | (rw [idxA_at]; rotate_left; (first | omega | (simp [lenOf, app]; omega) | (simp only [lenOf]; omega))) | (rw [wr_up]; rotate_left; (first | omega | (simp [lenOf, app]; omega) | (simp only [lenOf]; omega))) | ((first | rw [drop_cI] | rw [drop_cE] | rw [drop_cS] | rw [drop_cP] | rw [drop_cR]); rotate_left; assumption)); try simp only [go_sem, ↓reduceIte, Nat.reduceAdd, Nat.reduceEqDiff, Nat.reduceLT, Nat.reduceLeDiff, Nat.reduceBEq, Int.reduceEq, Int.reduceLT, Int.reduceLE]))
  | false =>
    rw [hp] at hr; simp only [Bool.not_false, if_true] at hr
    obtain ⟨now', M, Q, rfl, h1, h2, h3, _⟩ := hr
    obtain ⟨Q1, s1, _, g1, g2, g3⟩ := gO_set h3 (loop85 w es ss out N .exhausted none)
    have e1 : St.get ⟨M, Q, p, q⟩ (na N 1) = some (loop85 w es ss out N .ready none) := h3
    have k2 : gO M Q1 N = some (.cells [.bool false]) := by rw [g2 _ (by first | omega | (simp only [na]; omega))]; exact h2
    have e2 : St.get ⟨M, Q1, p, q⟩ N = some (.cells [.bool false]) := k2
    obtain ⟨Q2, s2, _, g4, g5, g6⟩ := gO_set k2 (.cells [.bool false])
    have e3 : St.get ⟨M, Q2, p, q⟩ N = some (.cells [.bool false]) := g4
    have hold := (g6 _ _ (g3 _ _ h1 (by first | omega | (simp only [na]; omega))) (by first | omega | (simp only [na]; omega))).old p q p
    unfold loop85 at hc e1 s1
    (try simp only [go_sem, ↓reduceIte, Nat.reduceAdd, Nat.reduceEqDiff, Nat.reduceLT, Nat.reduceLeDiff, Nat.reduceBEq, Int.reduceEq, Int.reduceLT, Int.reduceLE]); (repeat ((first | rw [hc] | rw [e1] | rw [s1] | rw [e2] | rw [s2] | rw [e3] | rw [hold] | (rw [lt_yes]; rotate_left; (first | omega | (simp [lenOf, app]; omega) | (simp only [lenOf]; omega))) | (rw [lt_no]; rotate_left; (first | omega | (simp [lenOf, app]; omega) | (simp only [lenOf]; omega))) | (rw [idxA_at]; rotate_left; (first | omega | (simp [lenOf, app]; omega) | (simp only [lenOf]; omega))) | (rw [wr_up]; rotate_left; (first | omega | (simp [lenOf, app]; omega) | (simp only [lenOf]; omega))) | ((first | rw [drop_cI] | rw [drop_cE] | rw [drop_cS] | rw [drop_cP] | rw [drop_cR]); rotate_left; assumption)); try simp only [go_sem, ↓reduceIte, Nat.reduceAdd, Nat.reduceEqDiff, Nat.reduceLT, Nat.reduceLeDiff, Nat.reduceBEq, Int.reduceEq, Int.reduceLT, Int.reduceLE]))
theorem k85n (S : Slate) (hG : Good S) (s : St) : lim tbl (.call 85 [vSl S, .sl0]) s = some (.ret, [.bool (possibleB S [])], s) := by
  have h := k85 S [] hG (by simp) s
  rw [lim_call tbl_85] at h ⊢
  exact h
end Go.Proofs.Ytlhfeiacigmliaa

/- The wash-house's soap: what the functions compute: the first wrong saying. -/
namespace Go.Proofs.Ytlhfeiacigmliaa
open Go
set_option maxRecDepth 10000

theorem take_cells {α : Type} {f : α → List AVal} {sz : Nat} (hf : ∀ a, (f a).length = sz) : ∀ (l : List α) (n : Nat), (cellsOf f l).take (n * sz) = cellsOf f (l.take n)
  | [], n => by simp [cells_nil]
  | a :: l, 0 => by simp [cells_nil]
  | a :: l, n + 1 => by
    have ih := take_cells hf l n
    rw [cells_cons, List.take_succ_cons, cells_cons, ← ih, show (n + 1) * sz = (f a).length + n * sz by rw [hf, Nat.add_mul]; omega, List.take_length_add_append]
theorem sliceHi_at {α : Type} {f : α → List AVal} {sz : Nat} (hf : ∀ a, (f a).length = sz) (l : List α) {n : Nat} (h : n ≤ l.length) (pm : Perm) : sliceHi sz (.vsl (cellsOf f l) (lenOf l) pm) (i64 (Int.ofNat n)) = some (sl f (l.take n)) := by
  have hb : bndV (i64 (Int.ofNat n)) l.length = some n := bnd_in h
  have b1 : ∀ d m, boundA [i64 (Int.ofNat n)] (some (.tmp 0)) d m = bndV (i64 (Int.ofNat n)) m := fun _ _ => rfl
  have b0 : ∀ d m, boundA [i64 (Int.ofNat n)] none d m = some d := fun _ _ => rfl
  unfold sliceHi sliceA
  simp only [b1, b0, lenOf, Option.bind_eq_bind, Option.bind_some, hb, cells_length hf, if_true, Nat.zero_mul, List.drop_zero, Nat.sub_zero, take_cells hf]
  simp [sl, lenOf, Nat.min_eq_left h]
theorem Good.take {w : Int} {es : List Ent} {ss : List Say} (h : Good ⟨w, es, ss⟩) (n : Nat) : Good ⟨w, es, ss.take n⟩ := by
  refine ⟨h.w0, h.w6, h.e6, ?_, h.oe, h.of, fun x hx => h.os x (List.mem_of_mem_take hx)⟩
  have := h.s5
  simp only [List.length_take] at this ⊢
  omega
def firstPUp (S : Slate) : Nat → Nat → Option Nat
  | 0, _ => none
  | k + 1, i => if possibleB ⟨S.women, S.es, S.ss.take (i + 1)⟩ [] then firstPUp S k (i + 1) else some i
theorem l40 (w : Int) (es : List Ent) (ss : List Say) (hG : Good ⟨w, es, ss⟩) (N : Nat) (O : List AObj) (p : Nat) (q : Nat → Nat) : ∀ (k i : Nat) (X : AVal), i + k = ss.length →
    ∃ X', lim tbl (.loop a40_l0 30 ⟨[1, 5, 15, 16], [], [2, 3]⟩ [.vref [i64 w, sl cE es, sl cS ss], .ptr N 0, i64 (Int.ofNat (lenOf ss)), i64 (Int.ofNat i)]) ⟨na N 1, .cells [i64 w, sl cE es, X] :: O, p, q⟩
     = match firstPUp ⟨w, es, ss⟩ k i with
       | none => some (.exit 0, [], ⟨na N 1, .cells [i64 w, sl cE es, X'] :: O, p, q⟩)
       | some j => some (.ret, [i64 (Int.ofNat j), i64 0], ⟨na N 1, .cells [i64 w, sl cE es, X'] :: O, p, q⟩) := by
  intro k
  have hs5 := hG.s5
  simp only at hs5
  induction k with
  | zero =>
    intro i X hi
    refine ⟨X, ?_⟩
    simp only [firstPUp]
    rw [lim_loop]
    (try simp only [go_sem, ↓reduceIte, Nat.reduceAdd, Nat.reduceEqDiff, Nat.reduceLT, Nat.reduceLeDiff, Nat.reduceBEq, Int.reduceEq, Int.reduceLT, Int.reduceLE]); (repeat ((first | (rw [lt_yes]; rotate_left; (first | omega | (simp [lenOf, app]; omega) | (simp only [lenOf]; omega))) | (rw [lt_no]; rotate_left; (first | omega | (simp [lenOf, app]; omega) | (simp only [lenOf]; omega))) | (rw [idxA_at]; rotate_left; (first | omega | (simp [lenOf, app]; omega) | (simp only [lenOf]; omega))) | (rw [wr_up]; rotate_left; (first | omega | (simp [lenOf, app]; omega) | (simp only [lenOf]; omega))) | ((first | rw [drop_cI] | rw [drop_cE] | rw [drop_cS] | rw [drop_cP] | rw [drop_cR]); rotate_left; assumption)); try simp only [go_sem, ↓reduceIte, Nat.reduceAdd, Nat.reduceEqDiff, Nat.reduceLT, Nat.reduceLeDiff, Nat.reduceBEq, Int.reduceEq, Int.reduceLT, Int.reduceLE]))
  | succ k ih =>
    intro i X hi
    have h85 := fun s => k85n ⟨w, es, ss.take (i + 1)⟩ (hG.take (i + 1)) s
    have hsl : sliceHi 3 (.vsl (cellsOf cS ss) (lenOf ss) .no) (i64 (Int.ofNat (i + 1))) = some (sl cS (ss.take (i + 1))) := sliceHi_at (f := cS) (sz := 3) (fun _ => rfl) ss (n := i + 1) (by omega) .no
    simp only [firstPUp]
    generalize ss.take (i + 1) = T at hsl h85 ⊢
    cases hP : possibleB ⟨w, es, T⟩ [] with
    | true =>
      obtain ⟨X', h'⟩ := ih (i + 1) (sl cS T) (by omega)
      refine ⟨X', ?_⟩
      simp only [if_true]
      rw [← h', lim_loop]
      generalize hR : lim tbl (.loop _ _ _ _) _ = R
      rw [hP] at h85
      (try simp only [go_sem, ↓reduceIte, Nat.reduceAdd, Nat.reduceEqDiff, Nat.reduceLT, Nat.reduceLeDiff, Nat.reduceBEq, Int.reduceEq, Int.reduceLT, Int.reduceLE]); (repeat ((first | rw [hsl] | simp only [h85] | (rw [lt_yes]; rotate_left; (first | omega | (simp [lenOf, app]; omega) | (simp only [lenOf]; omega))) | (rw [lt_no]; rotate_left; (first | omega | (simp [lenOf, app]; omega) | (simp only [lenOf]; omega))) | (rw [idxA_at]; rotate_left; (first | omega | (simp [lenOf, app]; omega) | (simp only [lenOf]; omega))) | (rw [wr_up]; rotate_left; (first | omega | (simp [lenOf, app]; omega) | (simp only [lenOf]; omega))) | ((first | rw [drop_cI] | rw [drop_cE] | rw [drop_cS] | rw [drop_cP] | rw [drop_cR]); rotate_left; assumption)); try simp only [go_sem, ↓reduceIte, Nat.reduceAdd, Nat.reduceEqDiff, Nat.reduceLT, Nat.reduceLeDiff, Nat.reduceBEq, Int.reduceEq, Int.reduceLT, Int.reduceLE]))
      exact hR
    | false =>
      refine ⟨sl cS T, ?_⟩
      simp only [Bool.false_eq_true, if_false]
      rw [lim_loop]
      rw [hP] at h85
      (try simp only [go_sem, ↓reduceIte, Nat.reduceAdd, Nat.reduceEqDiff, Nat.reduceLT, Nat.reduceLeDiff, Nat.reduceBEq, Int.reduceEq, Int.reduceLT, Int.reduceLE]); (repeat ((first | rw [hsl] | simp only [h85] | (rw [lt_yes]; rotate_left; (first | omega | (simp [lenOf, app]; omega) | (simp only [lenOf]; omega))) | (rw [lt_no]; rotate_left; (first | omega | (simp [lenOf, app]; omega) | (simp only [lenOf]; omega))) | (rw [idxA_at]; rotate_left; (first | omega | (simp [lenOf, app]; omega) | (simp only [lenOf]; omega))) | (rw [wr_up]; rotate_left; (first | omega | (simp [lenOf, app]; omega) | (simp only [lenOf]; omega))) | ((first | rw [drop_cI] | rw [drop_cE] | rw [drop_cS] | rw [drop_cP] | rw [drop_cR]); rotate_left; assumption)); try simp only [go_sem, ↓reduceIte, Nat.reduceAdd, Nat.reduceEqDiff, Nat.reduceLT, Nat.reduceLeDiff, Nat.reduceBEq, Int.reduceEq, Int.reduceLT, Int.reduceLE]))
def firstA (S : Slate) : Int := if checkSlate S ≠ 0 then 0 else match firstPUp S (lenOf S.ss) 0 with | none => 0 | some j => Int.ofNat j
def firstE (S : Slate) : Int := if checkSlate S ≠ 0 then checkSlate S else match firstPUp S (lenOf S.ss) 0 with | none => 7 | some _ => 0
theorem k40 (S : Slate) (s : St) : lim tbl (.call 40 [vSl S]) s = some (.ret, [.tup [i64 (firstA S), i64 (firstE S)]], s) := by
  have h63 := fun s => k63 S s
  rw [lim_call tbl_40]
  by_cases hc : checkSlate S = 0
  · have hG := good_of_check hc
    rw [hc] at h63
    obtain ⟨w, es, ss⟩ := S
    obtain ⟨N, O, p, q⟩ := s
    obtain ⟨X', h0⟩ := l40 w es ss hG N O p q ss.length 0 (sl cS ss) (by omega)
    rw [ofNat_0] at h0
    have hl : lenOf ss = ss.length := rfl
    cases hf : firstPUp ⟨w, es, ss⟩ ss.length 0 with
    | none =>
      have h1 : firstA ⟨w, es, ss⟩ = 0 := by simp [firstA, hl, hf]
      have h2 : firstE ⟨w, es, ss⟩ = 7 := by simp [firstE, hc, hl, hf]
      rw [h1, h2]
      rw [hf] at h0
      simp only at h0
      (try simp only [go_sem, ↓reduceIte, Nat.reduceAdd, Nat.reduceEqDiff, Nat.reduceLT, Nat.reduceLeDiff, Nat.reduceBEq, Int.reduceEq, Int.reduceLT, Int.reduceLE]); (repeat ((first | simp only [h63] | rw [h0] | (rw [lt_yes]; rotate_left; (first | omega | (simp [lenOf, app]; omega) | (simp only [lenOf]; omega))) | (rw [lt_no]; rotate_left; (first | omega | (simp [lenOf, app]; omega) | (simp only [lenOf]; omega))) | (rw [idxA_at]; rotate_left; (first | omega | (simp [lenOf, app]; omega) | (simp only [lenOf]; omega))) | (rw [wr_up]; rotate_left; (first | omega | (simp [lenOf, app]; omega) | (simp only [lenOf]; omega))) | ((first | rw [drop_cI] | rw [drop_cE] | rw [drop_cS] | rw [drop_cP] | rw [drop_cR]); rotate_left; assumption)); try simp only [go_sem, ↓reduceIte, Nat.reduceAdd, Nat.reduceEqDiff, Nat.reduceLT, Nat.reduceLeDiff, Nat.reduceBEq, Int.reduceEq, Int.reduceLT, Int.reduceLE]))
    | some j =>
      have h1 : firstA ⟨w, es, ss⟩ = Int.ofNat j := by simp [firstA, hc, hl, hf]
      have h2 : firstE ⟨w, es, ss⟩ = 0 := by simp [firstE, hc, hl, hf]
      rw [h1, h2]
      rw [hf] at h0
      simp only at h0
      (try simp only [go_sem, ↓reduceIte, Nat.reduceAdd, Nat.reduceEqDiff, Nat.reduceLT, Nat.reduceLeDiff, Nat.reduceBEq, Int.reduceEq, Int.reduceLT, Int.reduceLE]); (repeat ((first | simp only [h63] | rw [h0] | (rw [lt_yes]; rotate_left; (first | omega | (simp [lenOf, app]; omega) | (simp only [lenOf]; omega))) | (rw [lt_no]; rotate_left; (first | omega | (simp [lenOf, app]; omega) | (simp only [lenOf]; omega))) | (rw [idxA_at]; rotate_left; (first | omega | (simp [lenOf, app]; omega) | (simp only [lenOf]; omega))) | (rw [wr_up]; rotate_left; (first | omega | (simp [lenOf, app]; omega) | (simp only [lenOf]; omega))) | ((first | rw [drop_cI] | rw [drop_cE] | rw [drop_cS] | rw [drop_cP] | rw [drop_cR]); rotate_left; assumption)); try simp only [go_sem, ↓reduceIte, Nat.reduceAdd, Nat.reduceEqDiff, Nat.reduceLT, Nat.reduceLeDiff, Nat.reduceBEq, Int.reduceEq, Int.reduceLT, Int.reduceLE]))
  · have h1 : firstA S = 0 := by simp [firstA, hc]
    have h2 : firstE S = checkSlate S := by simp [firstE, hc]
    rw [h1, h2]
    generalize checkSlate S = c at h63 hc ⊢
    obtain ⟨w, es, ss⟩ := S
    obtain ⟨N, O, p, q⟩ := s
    (try simp only [go_sem, ↓reduceIte, Nat.reduceAdd, Nat.reduceEqDiff, Nat.reduceLT, Nat.reduceLeDiff, Nat.reduceBEq, Int.reduceEq, Int.reduceLT, Int.reduceLE]); (repeat ((first | simp only [h63] | rw [eq_n hc] | (rw [lt_yes]; rotate_left; (first | omega | (simp [lenOf, app]; omega) | (simp only [lenOf]; omega))) | (rw [lt_no]; rotate_left; (first | omega | (simp [lenOf, app]; omega) | (simp only [lenOf]; omega))) | (rw [idxA_at]; rotate_left; (first | omega | (simp [lenOf, app]; omega) | (simp only [lenOf]; omega))) | (rw [wr_up]; rotate_left; (first | omega | (simp [lenOf, app]; omega) | (simp only [lenOf]; omega))) | ((first | rw [drop_cI] | rw [drop_cE] | rw [drop_cS] | rw [drop_cP] | rw [drop_cR]); rotate_left; assumption)); try simp only [go_sem, ↓reduceIte, Nat.reduceAdd, Nat.reduceEqDiff, Nat.reduceLT, Nat.reduceLeDiff, Nat.reduceBEq, Int.reduceEq, Int.reduceLT, Int.reduceLE]))
end Go.Proofs.Ytlhfeiacigmliaa

/- The wash-house's soap: what the functions compute: the smallest set of sayings. -/
namespace Go.Proofs.Ytlhfeiacigmliaa
open Go
set_option maxRecDepth 10000
set_option linter.unusedSectionVars false

@[go_sem] theorem cells_beq_cE (l : List Ent) (n : Nat) (pm : Perm) : AVal.beq (.vsl (cellsOf cE l) n pm) (.vsl (cellsOf cE l) n pm) = true := by
  simp [AVal.beq, beqs_cells (f := cE) (fun a => by simp [cE, beqs, AVal.beq]) l]
@[go_sem] theorem cells_beq_cS (l : List Say) (n : Nat) (pm : Perm) : AVal.beq (.vsl (cellsOf cS l) n pm) (.vsl (cellsOf cS l) n pm) = true := by
  simp [AVal.beq, beqs_cells (f := cS) (fun a => by simp [cS, beqs, AVal.beq]) l]
@[go_sem] theorem beq_vref (a b : List AVal) : AVal.beq (.vref a) (.vref b) = beqs a b := by simp [AVal.beq]
@[go_sem] theorem beq_fn (n : Nat) (a b : List AVal) : AVal.beq (.fn (.func n) a b) (.fn (.func n) a b) = (beqs a a && beqs b b) := by simp [AVal.beq, fnEq]

/-- More rooms, and none that was is different. -/
def Ro (p : Nat) (q : Nat → Nat) (p' : Nat) (q' : Nat → Nat) : Prop := p ≤ p' ∧ ∀ x, x < p → q' x = q x
theorem Ro.refl (p : Nat) (q : Nat → Nat) : Ro p q p q := ⟨Nat.le_refl _, fun _ _ => rfl⟩
theorem Ro.trans {p : Nat} {q : Nat → Nat} {p1 : Nat} {q1 : Nat → Nat} {p2 : Nat} {q2 : Nat → Nat} (h : Ro p q p1 q1) (h' : Ro p1 q1 p2 q2) : Ro p q p2 q2 :=
  ⟨Nat.le_trans h.1 h'.1, fun x hx => by rw [h'.2 x (by have := h.1; omega), h.2 x hx]⟩
theorem Ro.room (p : Nat) (q : Nat → Nat) (k : Nat) : Ro p q (roomP p k) (roomC p q k) :=
  ⟨by unfold roomP; split <;> omega, fun x hx => roomC_old p q k x hx⟩
theorem Ro.old {p : Nat} {q : Nat → Nat} {p' : Nat} {q' : Nat → Nat} (h : Ro p q p' q') {N0 : Nat} {O0 : List AObj} {N : Nat} {O : List AObj} (h' : OldO N0 O0 N O) : Ytlhfeiacigmliaa.old ⟨N0, O0, p, q⟩ ⟨N, O, p', q'⟩ = true := by
  simp only [Ytlhfeiacigmliaa.old, decide_eq_true_eq]
  exact ⟨h'.1, h'.2, h.2⟩

/-- A list's copy with one more. -/
theorem k87 (r : Nat) (L : List Int) (h : L.length < 1000000) (N : Nat) (O : List AObj) (p : Nat) (q : Nat → Nat) : lim tbl (.call 87 [ownSl cI r L]) ⟨N, O, p, q⟩ = some (.ret, [ownSl cI p L], ⟨N, O, roomP p (lenOf L), roomC p q (lenOf L)⟩) := by
  rw [lim_call tbl_87]
  cases L with
  | nil =>
    rw [ownSl_nil, ownSl_nil, show lenOf ([] : List Int) = 0 from rfl, roomP_0, roomC_0]
    (try simp only [go_sem, ↓reduceIte, Nat.reduceAdd, Nat.reduceEqDiff, Nat.reduceLT, Nat.reduceLeDiff, Nat.reduceBEq, Int.reduceEq, Int.reduceLT, Int.reduceLE]); (repeat ((first | (rw [lt_yes]; rotate_left; (first | omega | (simp [lenOf, app]; omega) | (simp only [lenOf]; omega))) | (rw [lt_no]; rotate_left; (first | omega | (simp [lenOf, app]; omega) | (simp only [lenOf]; omega))) | (rw [idxA_at]; rotate_left; (first | omega | (simp [lenOf, app]; omega) | (simp only [lenOf]; omega))) | (rw [wr_up]; rotate_left; (first | omega | (simp [lenOf, app]; omega) | (simp only [lenOf]; omega))) | ((first | rw [drop_cI] | rw [drop_cE] | rw [drop_cS] | rw [drop_cP] | rw [drop_cR]); rotate_left; assumption)); try simp only [go_sem, ↓reduceIte, Nat.reduceAdd, Nat.reduceEqDiff, Nat.reduceLT, Nat.reduceLeDiff, Nat.reduceBEq, Int.reduceEq, Int.reduceLT, Int.reduceLE]))
  | cons a L =>
    have h0 : (a :: L).length ≠ 0 := by simp
    have hl : (cellsOf cI (a :: L)).length = (a :: L).length * 1 := cells_length (sz := 1) (fun _ => rfl) _
    have he : ∀ x : AVal, x = ownSl cI r (a :: L) → elemsA ⟨N, O, p, q⟩ 1 x = some ((a :: L).length, cellsOf cI (a :: L)) := by
      rintro x rfl
      unfold ownSl; rw [if_neg h0]; simp only [elemsA]; rw [if_pos hl]
    have ha := append_copy' (f := cI) (sz := 1) 8 p q N O (ownSl cI r (a :: L)) (a :: L) (he _ rfl) (by omega) (by omega)
    have hn : eqNilA 1 (ownSl cI r (a :: L)) .sl0 = some false := by
      unfold ownSl; rw [if_neg h0]; simp [eqNilA]
    have hc : copySl cI p (a :: L) = ownSl cI p (a :: L) := by unfold copySl ownSl; rw [if_neg h0, if_neg h0]
    rw [hc] at ha
    generalize a :: L = B at ha hn
    (try simp only [go_sem, ↓reduceIte, Nat.reduceAdd, Nat.reduceEqDiff, Nat.reduceLT, Nat.reduceLeDiff, Nat.reduceBEq, Int.reduceEq, Int.reduceLT, Int.reduceLE]); (repeat ((first | rw [hn] | rw [ha] | (rw [lt_yes]; rotate_left; (first | omega | (simp [lenOf, app]; omega) | (simp only [lenOf]; omega))) | (rw [lt_no]; rotate_left; (first | omega | (simp [lenOf, app]; omega) | (simp only [lenOf]; omega))) | (rw [idxA_at]; rotate_left; (first | omega | (simp [lenOf, app]; omega) | (simp only [lenOf]; omega))) | (rw [wr_up]; rotate_left; (first | omega | (simp [lenOf, app]; omega) | (simp only [lenOf]; omega))) | ((first | rw [drop_cI] | rw [drop_cE] | rw [drop_cS] | rw [drop_cP] | rw [drop_cR]); rotate_left; assumption)); try simp only [go_sem, ↓reduceIte, Nat.reduceAdd, Nat.reduceEqDiff, Nat.reduceLT, Nat.reduceLeDiff, Nat.reduceBEq, Int.reduceEq, Int.reduceLT, Int.reduceLE]))
/-- The lists of so many sayings from one on, in the program's order. -/
def combs (n : Nat) : Nat → Nat → List (List Int)
  | 0, _ => [[]]
  | m + 1, f => (List.range' f (n - m - f)).flatMap fun i => (combs n m (i + 1)).map (Int.ofNat i :: ·)
/-- The tries: until one is possible; what was tried last. -/
def tried (S : Slate) (l : List (List Int)) (x : List Int) : List Int × Bool := iterL (fun _ L => !possibleB S L) (fun _ L => L) l x
def leaveFn (w : Int) (es : List Ent) (ss : List Say) (cf cl : Nat) : AObj := .cells [.fn (.func 86) [] [.ptr cf 0, .vref [i64 w, sl cE es, sl cS ss], .ptr cl 0]]
section
variable (w : Int) (es : List Ent) (ss : List Say) (hG : Good ⟨w, es, ss⟩) (cf cl : Nat) (hne : cf ≠ cl) (M : Nat)
include hG hne
/-- What the call of leave does. -/
def LeftOut (m f : Nat) (L : List Int) (r : Nat) (x : List Int) (Q : List AObj) (p : Nat) (q : Nat → Nat) (l : List (List Int)) : Prop :=
  ∃ Q' p' q' r', lim tbl (.call 86 [ownSl cI r L, i64 (Int.ofNat f), i64 (Int.ofNat m), .ptr cf 0, .vref [i64 w, sl cE es, sl cS ss], .ptr cl 0]) ⟨M, Q, p, q⟩
      = some (.ret, [.bool (!(tried ⟨w, es, ss⟩ l x).2)], ⟨M, Q', p', q'⟩) ∧
    gO M Q' cf = some (.cells [ownSl cI r' (tried ⟨w, es, ss⟩ l x).1]) ∧ gO M Q' cl = some (leaveFn w es ss cf cl) ∧ Ro p q p' q' ∧ ∀ N0 O0, OldO N0 O0 M Q → N0 ≤ cf → OldO N0 O0 M Q'
theorem l86 (m : Nat) (L : List Int) (hL : L.length < 1000)
    (ih : ∀ f r L' x r0 Q p q, L'.length ≤ L.length + 1 → gO M Q cf = some (.cells [ownSl cI r0 x]) → gO M Q cl = some (leaveFn w es ss cf cl) → f ≤ ss.length → LeftOut w es ss cf cl M m f L' r x Q p q ((combs ss.length m f).map (L' ++ ·))) :
    ∀ (k f : Nat) (r : Nat) (x : List Int) (r0 : Nat) (Q : List AObj) (p : Nat) (q : Nat → Nat), k = ss.length - m - f → m + 1 ≤ ss.length → f ≤ ss.length → gO M Q cf = some (.cells [ownSl cI r0 x]) → gO M Q cl = some (leaveFn w es ss cf cl) →
    ∃ Q' p' q' r', (lim tbl (.loop a86_l0 38 ⟨[0, 2, 4, 5, 10], [], [9]⟩ [ownSl cI r L, i64 (Int.ofNat (m + 1)), .vref [i64 w, sl cE es, sl cS ss], .ptr cl 0, i64 (Int.ofNat f)]) ⟨M, Q, p, q⟩
      = if (tried ⟨w, es, ss⟩ ((List.range' f k).flatMap fun i => (combs ss.length m (i + 1)).map (L ++ Int.ofNat i :: ·)) x).2 then some (.exit 0, [], ⟨M, Q', p', q'⟩) else some (.ret, [.bool true], ⟨M, Q', p', q'⟩)) ∧
    gO M Q' cf = some (.cells [ownSl cI r' (tried ⟨w, es, ss⟩ ((List.range' f k).flatMap fun i => (combs ss.length m (i + 1)).map (L ++ Int.ofNat i :: ·)) x).1]) ∧ gO M Q' cl = some (leaveFn w es ss cf cl) ∧ Ro p q p' q' ∧ ∀ N0 O0, OldO N0 O0 M Q → N0 ≤ cf → OldO N0 O0 M Q' := by
  have hs5 := hG.s5
  simp only at hs5
  intro k
  induction k with
  | zero =>
    intro f r x r0 Q p q hk hm hf h1 h2
    refine ⟨Q, p, q, r0, ?_, h1, h2, Ro.refl .., fun _ _ h _ => h⟩
    have hw : wr .i64 (Int.sub (Int.ofNat (lenOf ss)) (Int.ofNat (m + 1))) = Int.ofNat (ss.length - (m + 1)) := by
      rw [fold_sub, wr_in] <;> simp [lenOf] <;> omega
    rw [lim_loop]
    simp only [List.range'_zero, List.flatMap_nil, tried, iterL, if_true]
    by_cases hc : f ≤ ss.length - (m + 1)
    · exfalso; omega
    · (try simp only [go_sem, ↓reduceIte, Nat.reduceAdd, Nat.reduceEqDiff, Nat.reduceLT, Nat.reduceLeDiff, Nat.reduceBEq, Int.reduceEq, Int.reduceLT, Int.reduceLE]); (repeat ((first | rw [hw] | (rw [le_no]; rotate_left; (omega)) | (rw [lt_yes]; rotate_left; (first | omega | (simp [lenOf, app]; omega) | (simp only [lenOf]; omega))) | (rw [lt_no]; rotate_left; (first | omega | (simp [lenOf, app]; omega) | (simp only [lenOf]; omega))) | (rw [idxA_at]; rotate_left; (first | omega | (simp [lenOf, app]; omega) | (simp only [lenOf]; omega))) | (rw [wr_up]; rotate_left; (first | omega | (simp [lenOf, app]; omega) | (simp only [lenOf]; omega))) | ((first | rw [drop_cI] | rw [drop_cE] | rw [drop_cS] | rw [drop_cP] | rw [drop_cR]); rotate_left; assumption)); try simp only [go_sem, ↓reduceIte, Nat.reduceAdd, Nat.reduceEqDiff, Nat.reduceLT, Nat.reduceLeDiff, Nat.reduceBEq, Int.reduceEq, Int.reduceLT, Int.reduceLE]))
  | succ k ihk =>
    intro f r x r0 Q p q hk hm hf h1 h2
    have hw : wr .i64 (Int.sub (Int.ofNat (lenOf ss)) (Int.ofNat (m + 1))) = Int.ofNat (ss.length - (m + 1)) := by
      rw [fold_sub, wr_in] <;> simp [lenOf] <;> omega
    have hw2 : wr .i64 (Int.sub (Int.ofNat (m + 1)) 1) = Int.ofNat m := by
      rw [fold_sub, wr_in] <;> simp <;> omega
    have hcl := k87 r L (by omega) M Q p q
    have happ := append_own (f := cI) (sz := 1) (fun _ => rfl) 8 p q M Q L (Int.ofNat f) [i64 (Int.ofNat f)] rfl .full (by omega) (by omega)
    obtain ⟨Q1, p1, q1, r1, hc, g1, g2, g3, g4⟩ := ih (f + 1) p (app L [Int.ofNat f]) x r0 Q (roomP p (lenOf (app L [Int.ofNat f]))) (roomC p q (lenOf (app L [Int.ofNat f]))) (by simp [app]) h1 h2 (by omega)
    have hmap : ((combs ss.length m (f + 1)).map (app L [Int.ofNat f] ++ ·)) = (combs ss.length m (f + 1)).map (L ++ Int.ofNat f :: ·) := by
      congr 1; funext l; simp [app]
    rw [hmap] at hc g1
    rw [List.range'_succ]
    simp only [List.flatMap_cons, tried, iterL_append]
    simp only [tried] at hc g1
    generalize iterL (fun _ L => !possibleB ⟨w, es, ss⟩ L) (fun _ L => L) ((combs ss.length m (f + 1)).map (L ++ Int.ofNat f :: ·)) x = X at hc g1
    obtain ⟨y, b⟩ := X
    simp only at hc g1
    have e1 : St.get ⟨M, Q, p, q⟩ cl = some (leaveFn w es ss cf cl) := h2
    have e2 : St.get ⟨M, Q, roomP p (lenOf L), roomC p q (lenOf L)⟩ cl = some (leaveFn w es ss cf cl) := h2
    have e3 : St.get ⟨M, Q, roomP p (lenOf (app L [Int.ofNat f])), roomC p q (lenOf (app L [Int.ofNat f]))⟩ cl = some (leaveFn w es ss cf cl) := h2
    unfold leaveFn at e1 e2 e3
    cases b with
    | true =>
      simp only [if_true]
      obtain ⟨Q2, p2, q2, r2, hl, g5, g6, g7, g8⟩ := ihk (f + 1) r y r1 Q1 p1 q1 (by omega) hm (by omega) g1 g2
      refine ⟨Q2, p2, q2, r2, ?_, g5, g6, ((Ro.room ..).trans g3).trans g7, fun N0 O0 h h' => g8 N0 O0 (g4 N0 O0 h h') h'⟩
      refine Eq.trans ?_ hl
      rw [lim_loop]
      generalize hR : lim tbl (.loop _ _ _ _) _ = R
      (try simp only [go_sem, ↓reduceIte, Nat.reduceAdd, Nat.reduceEqDiff, Nat.reduceLT, Nat.reduceLeDiff, Nat.reduceBEq, Int.reduceEq, Int.reduceLT, Int.reduceLE]); (repeat ((first | rw [hw] | (rw [le_yes]; rotate_left; (omega)) | rw [e1] | rw [hcl] | rw [happ] | rw [hw2] | rw [hc] | rw [e2] | rw [e3] | (rw [lt_yes]; rotate_left; (first | omega | (simp [lenOf, app]; omega) | (simp only [lenOf]; omega))) | (rw [lt_no]; rotate_left; (first | omega | (simp [lenOf, app]; omega) | (simp only [lenOf]; omega))) | (rw [idxA_at]; rotate_left; (first | omega | (simp [lenOf, app]; omega) | (simp only [lenOf]; omega))) | (rw [wr_up]; rotate_left; (first | omega | (simp [lenOf, app]; omega) | (simp only [lenOf]; omega))) | ((first | rw [drop_cI] | rw [drop_cE] | rw [drop_cS] | rw [drop_cP] | rw [drop_cR]); rotate_left; assumption)); try simp only [go_sem, ↓reduceIte, Nat.reduceAdd, Nat.reduceEqDiff, Nat.reduceLT, Nat.reduceLeDiff, Nat.reduceBEq, Int.reduceEq, Int.reduceLT, Int.reduceLE]))
      exact hR
    | false =>
      simp only [Bool.false_eq_true, if_false]
      refine ⟨Q1, p1, q1, r1, ?_, g1, g2, (Ro.room ..).trans g3, g4⟩
      rw [lim_loop]
      (try simp only [go_sem, ↓reduceIte, Nat.reduceAdd, Nat.reduceEqDiff, Nat.reduceLT, Nat.reduceLeDiff, Nat.reduceBEq, Int.reduceEq, Int.reduceLT, Int.reduceLE]); (repeat ((first | rw [hw] | (rw [le_yes]; rotate_left; (omega)) | rw [e1] | rw [hcl] | rw [happ] | rw [hw2] | rw [hc] | rw [e2] | rw [e3] | (rw [lt_yes]; rotate_left; (first | omega | (simp [lenOf, app]; omega) | (simp only [lenOf]; omega))) | (rw [lt_no]; rotate_left; (first | omega | (simp [lenOf, app]; omega) | (simp only [lenOf]; omega))) | (rw [idxA_at]; rotate_left; (first | omega | (simp [lenOf, app]; omega) | (simp only [lenOf]; omega))) | (rw [wr_up]; rotate_left; (first | omega | (simp [lenOf, app]; omega) | (simp only [lenOf]; omega))) | ((first | rw [drop_cI] | rw [drop_cE] | rw [drop_cS] | rw [drop_cP] | rw [drop_cR]); rotate_left; assumption)); try simp only [go_sem, ↓reduceIte, Nat.reduceAdd, Nat.reduceEqDiff, Nat.reduceLT, Nat.reduceLeDiff, Nat.reduceBEq, Int.reduceEq, Int.reduceLT, Int.reduceLE]))
theorem k85o (S : Slate) (out : List Int) (hG : Good S) (ho : out.length < 1000000) (r : Nat) (s : St) : lim tbl (.call 85 [vSl S, ownSl cI r out]) s = some (.ret, [.bool (possibleB S out)], s) := by
  have h := k85 S out hG ho s
  have e : norms [vSl S, ownSl cI r out] = norms [vSl S, sl cI out] := by simp only [norms_cons, norm_own_cI, norm_vsl, norms_cI]
  rw [lim_call tbl_85] at h ⊢
  rw [show a85.gc = some 1 from rfl, frameV_some] at h ⊢
  rw [e]; exact h
theorem k86 : ∀ (m : Nat) (f r : Nat) (L x : List Int) (r0 : Nat) (Q : List AObj) (p : Nat) (q : Nat → Nat), L.length + m < 1000 → gO M Q cf = some (.cells [ownSl cI r0 x]) → gO M Q cl = some (leaveFn w es ss cf cl) → f ≤ ss.length → m ≤ ss.length →
    LeftOut w es ss cf cl M m f L r x Q p q ((combs ss.length m f).map (L ++ ·)) := by
  have hs5 := hG.s5
  simp only at hs5
  intro m
  induction m with
  | zero =>
    intro f r L x r0 Q p q hL h1 h2 hf hm
    have h85 := fun s => k85o w es ss hG cf cl hne ⟨w, es, ss⟩ L hG (by omega) r s
    have e1 : St.get ⟨M, Q, p, q⟩ cf = some (.cells [ownSl cI r0 x]) := h1
    obtain ⟨Q1, s1, _, g1, g2, g3⟩ := gO_set h1 (.cells [ownSl cI r L])
    refine ⟨Q1, p, q, r, ?_, ?_, by rw [g2 _ (Ne.symm hne)]; exact h2, Ro.refl .., g3⟩
    · have ht : (tried ⟨w, es, ss⟩ ((combs ss.length 0 f).map (L ++ ·)) x).2 = !possibleB ⟨w, es, ss⟩ L := by
        simp only [combs, List.map_cons, List.map_nil, List.append_nil, tried, iterL]
        cases possibleB ⟨w, es, ss⟩ L <;> rfl
      rw [ht, Bool.not_not, lim_call tbl_86]
      generalize possibleB ⟨w, es, ss⟩ L = b at h85
      (try simp only [go_sem, ↓reduceIte, Nat.reduceAdd, Nat.reduceEqDiff, Nat.reduceLT, Nat.reduceLeDiff, Nat.reduceBEq, Int.reduceEq, Int.reduceLT, Int.reduceLE]); (repeat ((first | rw [e1] | rw [s1] | simp only [h85] | (rw [lt_yes]; rotate_left; (first | omega | (simp [lenOf, app]; omega) | (simp only [lenOf]; omega))) | (rw [lt_no]; rotate_left; (first | omega | (simp [lenOf, app]; omega) | (simp only [lenOf]; omega))) | (rw [idxA_at]; rotate_left; (first | omega | (simp [lenOf, app]; omega) | (simp only [lenOf]; omega))) | (rw [wr_up]; rotate_left; (first | omega | (simp [lenOf, app]; omega) | (simp only [lenOf]; omega))) | ((first | rw [drop_cI] | rw [drop_cE] | rw [drop_cS] | rw [drop_cP] | rw [drop_cR]); rotate_left; assumption)); try simp only [go_sem, ↓reduceIte, Nat.reduceAdd, Nat.reduceEqDiff, Nat.reduceLT, Nat.reduceLeDiff, Nat.reduceBEq, Int.reduceEq, Int.reduceLT, Int.reduceLE]))
    · have ht : (tried ⟨w, es, ss⟩ ((combs ss.length 0 f).map (L ++ ·)) x).1 = L := by
        simp only [combs, List.map_cons, List.map_nil, List.append_nil, tried, iterL]
        cases possibleB ⟨w, es, ss⟩ L <;> rfl
      rw [ht]; exact g1
  | succ m ih =>
    intro f r L x r0 Q p q hL h1 h2 hf hm
    obtain ⟨Q', p', q', r', hl, g1, g2, g3, g4⟩ := l86 w es ss hG cf cl hne M m L (by omega) (fun f r L' x r0 Q p q hL' h1 h2 hf => ih f r L' x r0 Q p q (by omega) h1 h2 hf (by omega))
      (ss.length - m - f) f r x r0 Q p q rfl hm hf h1 h2
    have hc : ((combs ss.length (m + 1) f).map (L ++ ·)) = (List.range' f (ss.length - m - f)).flatMap fun i => (combs ss.length m (i + 1)).map (L ++ Int.ofNat i :: ·) := by
      rw [combs, List.map_flatMap]
      simp only [List.map_map]; rfl
    refine ⟨Q', p', q', r', ?_, by rw [hc]; exact g1, g2, g3, g4⟩
    rw [hc]
    generalize (tried ⟨w, es, ss⟩ ((List.range' f (ss.length - m - f)).flatMap fun i => (combs ss.length m (i + 1)).map (L ++ Int.ofNat i :: ·)) x).2 = b at hl
    have hz : ¬ Int.ofNat (m + 1) = 0 := by simp; omega
    rw [lim_call tbl_86]
    cases b with
    | true =>
      simp only [if_true] at hl
      (try simp only [go_sem, ↓reduceIte, Nat.reduceAdd, Nat.reduceEqDiff, Nat.reduceLT, Nat.reduceLeDiff, Nat.reduceBEq, Int.reduceEq, Int.reduceLT, Int.reduceLE]); (repeat ((first | rw [eq_n hz] | rw [hl] | (rw [lt_yes]; rotate_left; (first | omega | (simp [lenOf, app]; omega) | (simp only [lenOf]; omega))) | (rw [lt_no]; rotate_left; (first | omega | (simp [lenOf, app]; omega) | (simp only [lenOf]; omega))) | (rw [idxA_at]; rotate_left; (first | omega | (simp [lenOf, app]; omega) | (simp only [lenOf]; omega))) | (rw [wr_up]; rotate_left; (first | omega | (simp [lenOf, app]; omega) | (simp only [lenOf]; omega))) | ((first | rw [drop_cI] | rw [drop_cE] | rw [drop_cS] | rw [drop_cP] | rw [drop_cR]); rotate_left; assumption)); try simp only [go_sem, ↓reduceIte, Nat.reduceAdd, Nat.reduceEqDiff, Nat.reduceLT, Nat.reduceLeDiff, Nat.reduceBEq, Int.reduceEq, Int.reduceLT, Int.reduceLE]))
    | false =>
      simp only [Bool.false_eq_true, if_false] at hl
      (try simp only [go_sem, ↓reduceIte, Nat.reduceAdd, Nat.reduceEqDiff, Nat.reduceLT, Nat.reduceLeDiff, Nat.reduceBEq, Int.reduceEq, Int.reduceLT, Int.reduceLE]); (repeat ((first | rw [eq_n hz] | rw [hl] | (rw [lt_yes]; rotate_left; (first | omega | (simp [lenOf, app]; omega) | (simp only [lenOf]; omega))) | (rw [lt_no]; rotate_left; (first | omega | (simp [lenOf, app]; omega) | (simp only [lenOf]; omega))) | (rw [idxA_at]; rotate_left; (first | omega | (simp [lenOf, app]; omega) | (simp only [lenOf]; omega))) | (rw [wr_up]; rotate_left; (first | omega | (simp [lenOf, app]; omega) | (simp only [lenOf]; omega))) | ((first | rw [drop_cI] | rw [drop_cE] | rw [drop_cS] | rw [drop_cP] | rw [drop_cR]); rotate_left; assumption)); try simp only [go_sem, ↓reduceIte, Nat.reduceAdd, Nat.reduceEqDiff, Nat.reduceLT, Nat.reduceLeDiff, Nat.reduceBEq, Int.reduceEq, Int.reduceLT, Int.reduceLE]))
theorem l41 (N0 : Nat) (O0 : List AObj) (h0 : N0 ≤ cf) : ∀ (k m : Nat) (x : List Int) (r0 : Nat) (Q : List AObj) (p : Nat) (q : Nat → Nat), m + k = ss.length + 1 → OldO N0 O0 M Q → gO M Q cf = some (.cells [ownSl cI r0 x]) → gO M Q cl = some (leaveFn w es ss cf cl) →
    ∃ Q' p' q' r', lim tbl (.loop a41_l0 26 ⟨[5, 6, 17, 18], [5], []⟩ [.ptr cf 0, .ptr cl 0, i64 (Int.ofNat (ss.length + 1)), i64 (Int.ofNat m)]) ⟨M, Q, p, q⟩ = some (.exit 0, [.ptr cf 0], ⟨M, Q', p', q'⟩) ∧
      gO M Q' cf = some (.cells [ownSl cI r' (tried ⟨w, es, ss⟩ ((List.range' m k).flatMap fun j => combs ss.length j 0) x).1]) ∧ Ro p q p' q' ∧ OldO N0 O0 M Q' := by
  have hs5 := hG.s5
  simp only at hs5
  intro k
  induction k with
  | zero =>
    intro m x r0 Q p q hm hO h1 h2
    refine ⟨Q, p, q, r0, ?_, h1, Ro.refl .., hO⟩
    rw [lim_loop]
    (try simp only [go_sem, ↓reduceIte, Nat.reduceAdd, Nat.reduceEqDiff, Nat.reduceLT, Nat.reduceLeDiff, Nat.reduceBEq, Int.reduceEq, Int.reduceLT, Int.reduceLE]); (repeat ((first | (rw [lt_yes]; rotate_left; (first | omega | (simp [lenOf, app]; omega) | (simp only [lenOf]; omega))) | (rw [lt_no]; rotate_left; (first | omega | (simp [lenOf, app]; omega) | (simp only [lenOf]; omega))) | (rw [idxA_at]; rotate_left; (first | omega | (simp [lenOf, app]; omega) | (simp only [lenOf]; omega))) | (rw [wr_up]; rotate_left; (first | omega | (simp [lenOf, app]; omega) | (simp only [lenOf]; omega))) | ((first | rw [drop_cI] | rw [drop_cE] | rw [drop_cS] | rw [drop_cP] | rw [drop_cR]); rotate_left; assumption)); try simp only [go_sem, ↓reduceIte, Nat.reduceAdd, Nat.reduceEqDiff, Nat.reduceLT, Nat.reduceLeDiff, Nat.reduceBEq, Int.reduceEq, Int.reduceLT, Int.reduceLE]))
  | succ k ihk =>
    intro m x r0 Q p q hm hO h1 h2
    obtain ⟨Q1, p1, q1, r1, hc, g1, g2, g3, g4⟩ := k86 w es ss hG cf cl hne M m 0 0 [] x r0 Q p q (by simp; omega) h1 h2 (by omega) (by omega)
    have hid : ((combs ss.length m 0).map (([] : List Int) ++ ·)) = combs ss.length m 0 := by simp
    rw [hid] at hc g1
    rw [ownSl_nil, ofNat_0] at hc
    rw [List.range'_succ]
    simp only [List.flatMap_cons, tried, iterL_append]
    simp only [tried] at hc g1
    generalize iterL (fun _ L => !possibleB ⟨w, es, ss⟩ L) (fun _ L => L) (combs ss.length m 0) x = X at hc g1
    obtain ⟨y, b⟩ := X
    simp only at hc g1
    have e1 : St.get ⟨M, Q, p, q⟩ cl = some (leaveFn w es ss cf cl) := h2
    unfold leaveFn at e1
    cases b with
    | true =>
      simp only [if_true]
      obtain ⟨Q2, p2, q2, r2, hl, g5, g7, g8⟩ := ihk (m + 1) y r1 Q1 p1 q1 (by omega) (g4 _ _ hO h0) g1 g2
      refine ⟨Q2, p2, q2, r2, ?_, g5, g3.trans g7, g8⟩
      rw [← hl, lim_loop]
      generalize hR : lim tbl (.loop _ _ _ _) _ = R
      (try simp only [go_sem, ↓reduceIte, Nat.reduceAdd, Nat.reduceEqDiff, Nat.reduceLT, Nat.reduceLeDiff, Nat.reduceBEq, Int.reduceEq, Int.reduceLT, Int.reduceLE]); (repeat ((first | rw [e1] | rw [hc] | (rw [lt_yes]; rotate_left; (first | omega | (simp [lenOf, app]; omega) | (simp only [lenOf]; omega))) | (rw [lt_no]; rotate_left; (first | omega | (simp [lenOf, app]; omega) | (simp only [lenOf]; omega))) | (rw [idxA_at]; rotate_left; (first | omega | (simp [lenOf, app]; omega) | (simp only [lenOf]; omega))) | (rw [wr_up]; rotate_left; (first | omega | (simp [lenOf, app]; omega) | (simp only [lenOf]; omega))) | ((first | rw [drop_cI] | rw [drop_cE] | rw [drop_cS] | rw [drop_cP] | rw [drop_cR]); rotate_left; assumption)); try simp only [go_sem, ↓reduceIte, Nat.reduceAdd, Nat.reduceEqDiff, Nat.reduceLT, Nat.reduceLeDiff, Nat.reduceBEq, Int.reduceEq, Int.reduceLT, Int.reduceLE]))
      exact hR
    | false =>
      simp only [Bool.false_eq_true, if_false]
      refine ⟨Q1, p1, q1, r1, ?_, g1, g3, g4 _ _ hO h0⟩
      rw [lim_loop]
      (try simp only [go_sem, ↓reduceIte, Nat.reduceAdd, Nat.reduceEqDiff, Nat.reduceLT, Nat.reduceLeDiff, Nat.reduceBEq, Int.reduceEq, Int.reduceLT, Int.reduceLE]); (repeat ((first | rw [e1] | rw [hc] | (rw [lt_yes]; rotate_left; (first | omega | (simp [lenOf, app]; omega) | (simp only [lenOf]; omega))) | (rw [lt_no]; rotate_left; (first | omega | (simp [lenOf, app]; omega) | (simp only [lenOf]; omega))) | (rw [idxA_at]; rotate_left; (first | omega | (simp [lenOf, app]; omega) | (simp only [lenOf]; omega))) | (rw [wr_up]; rotate_left; (first | omega | (simp [lenOf, app]; omega) | (simp only [lenOf]; omega))) | ((first | rw [drop_cI] | rw [drop_cE] | rw [drop_cS] | rw [drop_cP] | rw [drop_cR]); rotate_left; assumption)); try simp only [go_sem, ↓reduceIte, Nat.reduceAdd, Nat.reduceEqDiff, Nat.reduceLT, Nat.reduceLeDiff, Nat.reduceBEq, Int.reduceEq, Int.reduceLT, Int.reduceLE]))
end
def leaveL (S : Slate) : List Int := if checkSlate S ≠ 0 then [] else (tried S ((List.range' 0 (S.ss.length + 1)).flatMap fun j => combs S.ss.length j 0) []).1
theorem k41 (S : Slate) (s : St) : lim tbl (.call 41 [vSl S]) s = some (.ret, [.tup [sl cI (leaveL S), i64 (checkSlate S)]], s) := by
  have h63 := fun s => k63 S s
  rw [lim_call tbl_41]
  by_cases hc : checkSlate S = 0
  · have hG := good_of_check hc
    have h1 : leaveL S = (tried S ((List.range' 0 (S.ss.length + 1)).flatMap fun j => combs S.ss.length j 0) []).1 := by simp [leaveL, hc]
    rw [h1, hc]
    rw [hc] at h63
    obtain ⟨w, es, ss⟩ := S
    obtain ⟨N, O, p, q⟩ := s
    have hs5 := hG.s5
    simp only at hs5
    obtain ⟨Q', p', q', r', hl, g1, g2, g3⟩ := l41 w es ss hG N (na N 1) (by simp [na]) (na (na N 1) 1) N O (Nat.le_refl _) (ss.length + 1) 0 [] 0 (leaveFn w es ss N (na N 1) :: .cells [.sl0] :: O) p q (by omega)
      (((OldO.refl N O).push _).push _) (gO_push (gO_new ..) _) (gO_new ..)
    unfold leaveFn at hl
    rw [ofNat_0] at hl
    have hw : wr .i64 (Int.add (Int.ofNat (lenOf ss)) 1) = Int.ofNat (ss.length + 1) := wr_up (by simp only [lenOf]; omega)
    have e1 : St.get ⟨na (na N 1) 1, Q', p', q'⟩ N = some (.cells [ownSl cI r' (tried ⟨w, es, ss⟩ ((List.range' 0 (ss.length + 1)).flatMap fun j => combs ss.length j 0) []).1]) := g1
    have ho := g2.old g3
    simp only
    generalize (tried ⟨w, es, ss⟩ ((List.range' 0 (ss.length + 1)).flatMap fun j => combs ss.length j 0) []).1 = A at e1 ⊢
    generalize ss.length + 1 = n at hl hw
    (try simp only [go_sem, ↓reduceIte, Nat.reduceAdd, Nat.reduceEqDiff, Nat.reduceLT, Nat.reduceLeDiff, Nat.reduceBEq, Int.reduceEq, Int.reduceLT, Int.reduceLE]); (repeat ((first | simp only [h63] | rw [hw] | rw [hl] | rw [e1] | rw [ho] | (rw [lt_yes]; rotate_left; (first | omega | (simp [lenOf, app]; omega) | (simp only [lenOf]; omega))) | (rw [lt_no]; rotate_left; (first | omega | (simp [lenOf, app]; omega) | (simp only [lenOf]; omega))) | (rw [idxA_at]; rotate_left; (first | omega | (simp [lenOf, app]; omega) | (simp only [lenOf]; omega))) | (rw [wr_up]; rotate_left; (first | omega | (simp [lenOf, app]; omega) | (simp only [lenOf]; omega))) | ((first | rw [drop_cI] | rw [drop_cE] | rw [drop_cS] | rw [drop_cP] | rw [drop_cR]); rotate_left; assumption)); try simp only [go_sem, ↓reduceIte, Nat.reduceAdd, Nat.reduceEqDiff, Nat.reduceLT, Nat.reduceLeDiff, Nat.reduceBEq, Int.reduceEq, Int.reduceLT, Int.reduceLE]))
  · have h1 : leaveL S = [] := by simp [leaveL, hc]
    rw [h1]
    generalize checkSlate S = c at h63 hc ⊢
    obtain ⟨w, es, ss⟩ := S
    obtain ⟨N, O, p, q⟩ := s
    (try simp only [go_sem, ↓reduceIte, Nat.reduceAdd, Nat.reduceEqDiff, Nat.reduceLT, Nat.reduceLeDiff, Nat.reduceBEq, Int.reduceEq, Int.reduceLT, Int.reduceLE]); (repeat ((first | simp only [h63] | rw [eq_n hc] | (rw [lt_yes]; rotate_left; (first | omega | (simp [lenOf, app]; omega) | (simp only [lenOf]; omega))) | (rw [lt_no]; rotate_left; (first | omega | (simp [lenOf, app]; omega) | (simp only [lenOf]; omega))) | (rw [idxA_at]; rotate_left; (first | omega | (simp [lenOf, app]; omega) | (simp only [lenOf]; omega))) | (rw [wr_up]; rotate_left; (first | omega | (simp [lenOf, app]; omega) | (simp only [lenOf]; omega))) | ((first | rw [drop_cI] | rw [drop_cE] | rw [drop_cS] | rw [drop_cP] | rw [drop_cR]); rotate_left; assumption)); try simp only [go_sem, ↓reduceIte, Nat.reduceAdd, Nat.reduceEqDiff, Nat.reduceLT, Nat.reduceLeDiff, Nat.reduceBEq, Int.reduceEq, Int.reduceLT, Int.reduceLE]))
end Go.Proofs.Ytlhfeiacigmliaa

/- The wash-house's soap: what the functions compute: purses, and the truths of a slate at work. -/
namespace Go.Proofs.Ytlhfeiacigmliaa
open Go
set_option maxRecDepth 10000

def c7 (a : Nat → Int) (m : Nat) : List AVal := c6 a ++ [.map m]
def c7t (a : Nat → Int) (m j : Nat) : List AVal := (c7 a m).drop (j + 1)
abbrev Purse : Type := (Nat → Int) × Nat
def cT (x : Purse) : List AVal := [.vref (c7 x.1 x.2)]
@[go_sem] theorem fill_purse (a : Nat → Int) (m : Nat) : fillK2 (decide (7 ≤ frLen (splice [i64 0, i64 0, i64 0, i64 0, i64 0, i64 0, .nilm] 0 (c6 a)))) (splice [i64 0, i64 0, i64 0, i64 0, i64 0, i64 0, .nilm] 0 (c6 a)) 6 [.map m] [] = some (c7 a m) := (rfl)
@[go_sem] theorem look_c7 (s : St) (a : Nat → Int) (m : Nat) : lookN s (.vref (c7 a m)) 6 = some (c6 a) := (rfl)
@[go_sem] theorem drop6_c7 (a : Nat → Int) (m : Nat) : List.drop 6 (c7 a m) = [.map m] := (rfl)
theorem drop_c7 {j : Nat} (a : Nat → Int) (m : Nat) (h : j < 6) : List.drop (Nat.mul j 1) (c7 a m) = i64 (a j) :: c7t a m j := by
  rw [show Nat.mul j 1 = j from Nat.mul_one j]
  match j, h with
  | 0, _ | 1, _ | 2, _ | 3, _ | 4, _ | 5, _ => rfl
@[go_sem] theorem norms_c7 (a : Nat → Int) (m : Nat) : norms (c7 a m) = c7 a m := (rfl)
theorem beqs_c7 (a : Nat → Int) (m : Nat) : beqs (c7 a m) (c7 a m) = true := by simp [c7, c6, beqs, AVal.beq]
@[go_sem] theorem beq_own_cT (p : Nat) (l : List Purse) : AVal.beq (ownSl cT p l) (ownSl cT p l) = true := beq_own (fun x => by simp [cT, beqs, AVal.beq, beqs_c7]) p l
theorem drop_cT {l : List Purse} {i : Nat} {x : Purse} (h : l[i]? = some x) : List.drop (Nat.mul i 1) (cellsOf cT l) = .vref (c7 x.1 x.2) :: cellsOf cT (l.drop (i + 1)) := drop_cells (f := cT) (fun _ => rfl) h
def eq6 (a b : Nat → Int) : Bool := decide (a 0 = b 0) && (decide (a 1 = b 1) && (decide (a 2 = b 2) && (decide (a 3 = b 3) && (decide (a 4 = b 4) && (decide (a 5 = b 5) && true)))))
@[go_sem] theorem eqCells_c6 (a b : Nat → Int) : eqCells [0, 0, 0, 0, 0, 0] (c6 a) (c6 b) = some (eq6 a b) := (rfl)
theorem k80 (a : Nat → Int) (N : Nat) (O : List AObj) (p : Nat) (q : Nat → Nat) : lim tbl (.call 80 [.agg (c6 a)]) ⟨N, O, p, q⟩ = some (.ret, [.vref (c7 a N)], ⟨na N 1, .map true [] :: O, p, q⟩) := by
  rw [lim_call tbl_80]
  (try simp only [go_sem, ↓reduceIte, Nat.reduceAdd, Nat.reduceEqDiff, Nat.reduceLT, Nat.reduceLeDiff, Nat.reduceBEq, Int.reduceEq, Int.reduceLT, Int.reduceLE]); (repeat ((first | (rw [lt_yes]; rotate_left; (first | omega | (simp [lenOf, app]; omega) | (simp only [lenOf]; omega))) | (rw [lt_no]; rotate_left; (first | omega | (simp [lenOf, app]; omega) | (simp only [lenOf]; omega))) | (rw [idxA_at]; rotate_left; (first | omega | (simp [lenOf, app]; omega) | (simp only [lenOf]; omega))) | (rw [wr_up]; rotate_left; (first | omega | (simp [lenOf, app]; omega) | (simp only [lenOf]; omega))) | ((first | rw [drop_cI] | rw [drop_cE] | rw [drop_cS] | rw [drop_cP] | rw [drop_cR]); rotate_left; assumption)); try simp only [go_sem, ↓reduceIte, Nat.reduceAdd, Nat.reduceEqDiff, Nat.reduceLT, Nat.reduceLeDiff, Nat.reduceBEq, Int.reduceEq, Int.reduceLT, Int.reduceLE]))
def loop74 (w : Int) (es : List Ent) (ss : List Say) (N : Nat) (st : LoopState) (pd : Option AExit) : AObj :=
  .loop ⟨st, pd, .agg [i64 w, sl cE es, sl cS ss] :: .vref [i64 w, sl cE es, sl cS ss] :: .nilp :: i64 0 :: i64 0 :: .ptr (na N 1) 0 :: .tup [] :: .agg [i64 w, sl cE es, sl cS ss] :: i64 0 :: i64 0 :: .bool false :: .tup [] :: .agg [i64 w, sl cE es, sl cS ss] :: .agg [i64 w, sl cE es, sl cS ss, .sl0] :: .ptr N 0 :: .agg [i64 w, sl cE es, sl cS ss] :: .fn (.func 130) [] [.vref [i64 w, sl cE es, sl cS ss]] :: [.tup [], .tup [], .tup [], .tup [], .tup [], .tup [], .tup [], .tup [], .tup [], .tup [], .tup [], .tup [], .tup [], .tup [], .tup [], .tup [], .tup [], .tup [], .tup [], .tup [], .tup [], .tup [], .tup [], .tup [], .tup [], .tup [], .tup [], .tup [], .tup [], .tup [], .tup [], .tup [], .tup [], .tup [], .tup [], .tup [], .tup [], .tup [], .tup [], .tup [], .tup [], .tup [], .tup [], .tup [], .tup [], .tup [], .tup [], .tup [], .tup []], [17], .ops [⟨some 6, none, .alloc [i64 0, i64 0, i64 0, i64 0, i64 0, i64 0]⟩, ⟨none, none, .store 6 (.tmp 6) (.tmp 17)⟩], a74_l0⟩
/-- What is asked of all ounces: what all women are owed in the truths, one after the other, where it changes. -/
def askStep (es : List Ent) (ss : List Say) (vs : List (Nat → Int)) (L : List Int) : List (Nat → Int) :=
  if rightUp (owV es L) [] 0 ss && (match vs.getLast? with | none => true | some a => !eq6 a (owV es L)) then vs ++ [owV es L] else vs
def asked (S : Slate) : List (Nat → Int) := (iterL (fun _ _ => true) (askStep S.es S.ss) (ozs S.es) []).1
theorem askStep_len (es : List Ent) (ss : List Say) (vs : List (Nat → Int)) (L : List Int) : (askStep es ss vs L).length ≤ vs.length + 1 := by
  have : ∀ b : Bool, (if b then vs ++ [owV es L] else vs).length ≤ vs.length + 1 := by intro b; cases b <;> simp
  exact this _
structure J74 (w : Int) (es : List Ent) (ss : List Say) (N : Nat) (O : List AObj) (p : Nat) (q : Nat → Nat) (vs : List (Nat → Int)) (now : List Int) (T : List Purse) (M : Nat) (Q : List AObj) : Prop where
  vs : T.map (·.1) = vs
  old : OldO N O M Q
  wk : gO M Q N = some (.cells [i64 w, sl cE es, sl cS ss, ownSl cT p T])
  cell : gO M Q (na N 1) = some (.cells [.ptr N 0])
  loop : gO M Q (na (na N 1) 1) = some (loop74 w es ss N .ready none)
  nl : now.length = es.length
  nb : gO M Q (na (na (na N 1) 1) 1) = some (.cells (cellsOf cI now))
  c3 : gO M Q (na (na (na (na N 1) 1) 1) 1) = some (.cells [.hsl (na (na (na N 1) 1) 1) 0 (lenOf es) (some (lenOf es))])
  c4 : gO M Q (na (na (na (na (na N 1) 1) 1) 1) 1) = some (.cells [.fn (.func 131) [] [.vref [i64 w, sl cE es, sl cS ss], .vref [.yld (na (na N 1) 1)], .ptr (na (na (na (na N 1) 1) 1) 1) 0, .ptr (na (na (na (na (na N 1) 1) 1) 1) 1) 0]])
  maps : ∀ x ∈ T, na (na (na (na (na N 1) 1) 1) 1) 1 < x.2 ∧ gO M Q x.2 = some (.map true [])
  nd : (T.map (·.2)).Nodup
theorem J74.upd {w : Int} {es : List Ent} {ss : List Say} {N : Nat} {O : List AObj} {p : Nat} {q : Nat → Nat} {vs : List (Nat → Int)} {now : List Int} {T : List Purse} {M : Nat} {Q : List AObj} (h : J74 w es ss N O p q vs now T M Q) {M' : Nat} {Q' : List AObj} {T' : List Purse} {vs' : List (Nat → Int)}
    (hv : T'.map (·.1) = vs') (ho : OldO N O M' Q') (hw : gO M' Q' N = some (.cells [i64 w, sl cE es, sl cS ss, ownSl cT p T'])) (hk : ∀ b o, b ≠ N → b < M → gO M Q b = some o → gO M' Q' b = some o)
    (hm : ∀ x ∈ T', x ∉ T → na (na (na (na (na N 1) 1) 1) 1) 1 < x.2 ∧ gO M' Q' x.2 = some (.map true [])) (hn : (T'.map (·.2)).Nodup) : J74 w es ss N O p q vs' now T' M' Q' := by
  have lt := fun b o (g : gO M Q b = some o) => gO_lt g
  refine ⟨hv, ho, hw, hk _ _ (by simp only [na]; omega) (lt _ _ h.cell) h.cell, hk _ _ (by simp only [na]; omega) (lt _ _ h.loop) h.loop, h.nl, hk _ _ (by simp only [na]; omega) (lt _ _ h.nb) h.nb, hk _ _ (by simp only [na]; omega) (lt _ _ h.c3) h.c3, hk _ _ (by simp only [na]; omega) (lt _ _ h.c4) h.c4, fun x hx => ?_, hn⟩
  by_cases hx' : x ∈ T
  · obtain ⟨g1, g2⟩ := h.maps x hx'
    exact ⟨g1, hk _ _ (by simp only [na] at g1; omega) (lt _ _ g2) g2⟩
  · exact hm x hx hx'
theorem it74 {w : Int} {es : List Ent} {ss : List Say} (hG : Good ⟨w, es, ss⟩) (N : Nat) (O : List AObj) (p : Nat) (q : Nat → Nat) :
    IterOk (σ := List (Nat → Int)) List.length 100000 (fun vs now s => ∃ T M Q, s = ⟨M, Q, roomP p (lenOf T), roomC p q (lenOf T)⟩ ∧ J74 w es ss N O p q vs now T M Q) (fun _ _ => False) (fun _ _ => true) (askStep es ss) w es ss
      (na (na N 1) 1) (na (na (na N 1) 1) 1) (na (na (na (na N 1) 1) 1) 1) (na (na (na (na (na N 1) 1) 1) 1) 1) := by
  refine ⟨by have := hG.e6; simp only at this; omega, hG.oe, hG.of, ?_, ?_, fun vs L => askStep_len es ss vs L, ?_⟩
  · rintro vs now s ⟨T, M, Q, rfl, h⟩
    exact ⟨h.nl, h.nb, h.c3, h.c4⟩
  · rintro vs now s i v hi ⟨T, M, Q, rfl, h⟩
    obtain ⟨Q', s1, _, g1, g2, g3⟩ := gO_set h.nb (.cells (cellsOf cI (now.set i v)))
    have k := fun b o (hb : b ≠ na (na (na N 1) 1) 1) (g : gO M Q b = some o) => (g2 b hb).trans g
    refine ⟨T, M, Q', s1 (roomP p (lenOf T)) (roomC p q (lenOf T)), ?_⟩
    have hwk := k _ _ (by simp only [na]; omega) h.wk
    refine ⟨h.vs, g3 _ _ h.old (by simp only [na]; omega), hwk, k _ _ (by simp only [na]; omega) h.cell, k _ _ (by simp only [na]; omega) h.loop, by simpa using h.nl, g1,
      k _ _ (by simp only [na]; omega) h.c3, k _ _ (by simp only [na]; omega) h.c4, fun x hx => ?_, h.nd⟩
    obtain ⟨m1, m2⟩ := h.maps x hx
    exact ⟨m1, k _ _ (by simp only [na] at m1 ⊢; omega) m2⟩
  · rintro vs now s ⟨T, M, Q, rfl, h⟩ hB _
    have h96 := fun s => k96n ⟨w, es, ss⟩ (owV es now) (by have := hG.s5; simp only at this ⊢; omega) hG.os s
    simp only at h96
    have hTl : T.length < 100000 := by have := congrArg List.length h.vs; simp at this; omega
    have hr := lim_round (T := tbl) (l := na (na N 1) 1) (args := [.agg (c6 (owV es now))]) (s := ⟨M, Q, roomP p (lenOf T), roomC p q (lenOf T)⟩) h.loop rfl
    simp only [if_true]
    have e1 : St.get ⟨na M 1, .cells (c6 (owV es now)) :: Q, roomP p (lenOf T), roomC p q (lenOf T)⟩ (na (na N 1) 1) = some (loop74 w es ss N .ready none) := gO_push h.loop _
    obtain ⟨Q1, _, s1, g1, g2, g3⟩ := gO_set h.loop (loop74 w es ss N .busy none)
    have k1 : ∀ b o, b ≠ na (na N 1) 1 → gO M Q b = some o → gO M Q1 b = some o := fun b o hb g => (g2 b hb).trans g
    have hcell := k1 _ _ (by simp only [na]; omega) h.cell
    have hwk := k1 _ _ (by simp only [na]; omega) h.wk
    have e2 : ∀ p' q', St.get ⟨na M 1, .cells (c6 (owV es now)) :: Q1, p', q'⟩ (na (na N 1) 1) = some (loop74 w es ss N .busy none) := fun _ _ => gO_push g1 _
    have e3 : ∀ p' q', St.get ⟨na M 1, .cells (c6 (owV es now)) :: Q1, p', q'⟩ (na N 1) = some (.cells [.ptr N 0]) := fun _ _ => gO_push hcell _
    have e4 : ∀ p' q', St.get ⟨na M 1, .cells (c6 (owV es now)) :: Q1, p', q'⟩ N = some (.cells [i64 w, sl cE es, sl cS ss, ownSl cT p T]) := fun _ _ => gO_push hwk _
    obtain ⟨Q2, _, s2, g4, g5, g6⟩ := gO_set g1 (loop74 w es ss N .ready none)
    have k2 : ∀ b o, b ≠ na (na N 1) 1 → gO M Q b = some o → gO M Q2 b = some o := fun b o hb g => (g5 b hb).trans (k1 b o hb g)
    have hNN : N < na (na N 1) 1 := by simp only [na]; omega
    have same : askStep es ss vs now = vs → J74 w es ss N O p q (askStep es ss vs now) now T (na M 1) (.cells (c6 (owV es now)) :: Q2) := by
      intro hs
      rw [hs]
      refine h.upd h.vs ((g6 _ _ (g3 _ _ h.old (Nat.le_of_lt hNN)) (Nat.le_of_lt hNN)).push _) (gO_push (k2 _ _ (by simp only [na]; omega) h.wk) _) (fun b o hb _ g => ?_) (fun x hx hx' => absurd hx hx') h.nd
      by_cases hbl : b = na (na N 1) 1
      · subst hbl
        rw [h.loop] at g; cases g
        exact gO_push g4 _
      · exact gO_push (k2 b o hbl g) _
    cases hR : rightUp (owV es now) [] 0 ss with
    | false =>
      rw [hR] at h96
      refine ⟨⟨na M 1, .cells (c6 (owV es now)) :: Q2, roomP p (lenOf T), roomC p q (lenOf T)⟩, ?_, T, _, _, rfl, same (by simp [askStep, hR])⟩
      rw [hr]
      generalize owV es now = A at h96 e1 e2 e3 e4
      unfold loop74 at e1 e2 s1 s2
      (try simp only [go_sem, ↓reduceIte, Nat.reduceAdd, Nat.reduceEqDiff, Nat.reduceLT, Nat.reduceLeDiff, Nat.reduceBEq, Int.reduceEq, Int.reduceLT, Int.reduceLE]); (repeat ((first | rw [e1] | rw [s1] | simp only [h96] | rw [e2] | rw [s2] | (rw [lt_yes]; rotate_left; (first | omega | (simp [lenOf, app]; omega) | (simp only [lenOf]; omega))) | (rw [lt_no]; rotate_left; (first | omega | (simp [lenOf, app]; omega) | (simp only [lenOf]; omega))) | (rw [idxA_at]; rotate_left; (first | omega | (simp [lenOf, app]; omega) | (simp only [lenOf]; omega))) | (rw [wr_up]; rotate_left; (first | omega | (simp [lenOf, app]; omega) | (simp only [lenOf]; omega))) | ((first | rw [drop_cI] | rw [drop_cE] | rw [drop_cS] | rw [drop_cP] | rw [drop_cR]); rotate_left; assumption)); try simp only [go_sem, ↓reduceIte, Nat.reduceAdd, Nat.reduceEqDiff, Nat.reduceLT, Nat.reduceLeDiff, Nat.reduceBEq, Int.reduceEq, Int.reduceLT, Int.reduceLE]))
    | true =>
      rw [hR] at h96
      have hk80 := fun p' q' => k80 (owV es now) (na M 1) (.cells (c6 (owV es now)) :: Q1) p' q'
      have happ := append_own (f := cT) (sz := 1) (fun _ => rfl) 8 p q (na (na M 1) 1) (.map true [] :: .cells (c6 (owV es now)) :: Q1) T (owV es now, na M 1) [.vref (c7 (owV es now) (na M 1))] rfl .full (by omega) (by omega)
      have e5 : ∀ p' q', St.get ⟨na (na M 1) 1, .map true [] :: .cells (c6 (owV es now)) :: Q1, p', q'⟩ (na N 1) = some (.cells [.ptr N 0]) := fun _ _ => gO_push (gO_push hcell _) _
      have e6 : ∀ p' q', St.get ⟨na (na M 1) 1, .map true [] :: .cells (c6 (owV es now)) :: Q1, p', q'⟩ N = some (.cells [i64 w, sl cE es, sl cS ss, ownSl cT p T]) := fun _ _ => gO_push (gO_push hwk _) _
      obtain ⟨Q3, _, s3, g7, g8, g9⟩ := gO_set (gO_push hwk (.cells (c6 (owV es now)))) (.cells [i64 w, sl cE es, sl cS ss, ownSl cT p (app T [(owV es now, na M 1)])])
      have k3 : gO (na M 1) Q3 (na (na N 1) 1) = some (loop74 w es ss N .busy none) := (g8 _ (by simp only [na]; omega)).trans (gO_push g1 _)
      have e7 : ∀ p' q', St.get ⟨na (na M 1) 1, .map true [] :: Q3, p', q'⟩ (na (na N 1) 1) = some (loop74 w es ss N .busy none) := fun _ _ => gO_push k3 _
      obtain ⟨Q4, _, s4, g10, g11, g12⟩ := gO_set k3 (loop74 w es ss N .ready none)
      have hNM : na (na (na (na (na N 1) 1) 1) 1) 1 < M := gO_lt h.c4
      have new : askStep es ss vs now = vs ++ [owV es now] → J74 w es ss N O p q (askStep es ss vs now) now (app T [(owV es now, na M 1)]) (na (na M 1) 1) (.map true [] :: Q4) := by
        intro hs
        rw [hs]
        have o1 : OldO N O (na M 1) (.cells (c6 (owV es now)) :: Q1) := (g3 _ _ h.old (Nat.le_of_lt hNN)).push _
        refine h.upd (by simp [app, h.vs]) ((g12 _ _ (g9 _ _ o1 (Nat.le_refl _)) (Nat.le_of_lt hNN)).push _) (gO_push ((g11 _ (by simp only [na]; omega)).trans g7) _) (fun b o hb hbM g => ?_) (fun x hx hx' => ?_) ?_
        · by_cases hbl : b = na (na N 1) 1
          · subst hbl
            rw [h.loop] at g; cases g
            exact gO_push g10 _
          · exact gO_push ((g11 b hbl).trans ((g8 b hb).trans (gO_push (k1 b o hbl g) _))) _
        · simp only [app, List.mem_append, List.mem_singleton] at hx
          rcases hx with hx | hx
          · exact absurd hx hx'
          · subst hx
            exact ⟨by simp only [na] at hNM ⊢; omega, gO_new ..⟩
        · simp only [app, List.map_append, List.map_cons, List.map_nil]
          rw [List.nodup_append]
          refine ⟨h.nd, by simp, ?_⟩
          intro a ha b hb hab
          simp only [List.mem_singleton] at hb
          subst hab
          obtain ⟨x, hx, hxa⟩ := List.mem_map.mp ha
          have := gO_lt (h.maps x hx).2
          rw [hxa, hb] at this
          simp only [na] at this; omega
      clear g4 g5 g6 g7 g8 g9 g10 g11 g12
      rcases List.eq_nil_or_concat T with hT | ⟨T0, x, hT⟩
      · have hvs : vs = [] := by rw [← h.vs, hT]; rfl
        refine ⟨⟨na (na M 1) 1, .map true [] :: Q4, roomP p (lenOf (app T [(owV es now, na M 1)])), roomC p q (lenOf (app T [(owV es now, na M 1)]))⟩, ?_, _, _, _, rfl, new (by simp [askStep, hR, hvs])⟩
        rw [hr]
        have hz : Int.ofNat (lenOf T) = 0 := by rw [hT]; rfl
        generalize owV es now = A at h96 e1 e2 e3 e4 e5 e6 hk80 happ s3 s4 e7 ⊢
        unfold loop74 at e1 e2 e7 s1 s4
        (try simp only [go_sem, ↓reduceIte, Nat.reduceAdd, Nat.reduceEqDiff, Nat.reduceLT, Nat.reduceLeDiff, Nat.reduceBEq, Int.reduceEq, Int.reduceLT, Int.reduceLE]); (repeat ((first | rw [e1] | rw [s1] | simp only [h96] | rw [e3] | rw [e4] | rw [eq_y hz] | rw [hk80] | rw [happ] | rw [e5] | rw [e6] | rw [s3] | rw [e7] | rw [s4] | (rw [lt_yes]; rotate_left; (first | omega | (simp [lenOf, app]; omega) | (simp only [lenOf]; omega))) | (rw [lt_no]; rotate_left; (first | omega | (simp [lenOf, app]; omega) | (simp only [lenOf]; omega))) | (rw [idxA_at]; rotate_left; (first | omega | (simp [lenOf, app]; omega) | (simp only [lenOf]; omega))) | (rw [wr_up]; rotate_left; (first | omega | (simp [lenOf, app]; omega) | (simp only [lenOf]; omega))) | ((first | rw [drop_cI] | rw [drop_cE] | rw [drop_cS] | rw [drop_cP] | rw [drop_cR]); rotate_left; assumption)); try simp only [go_sem, ↓reduceIte, Nat.reduceAdd, Nat.reduceEqDiff, Nat.reduceLT, Nat.reduceLeDiff, Nat.reduceBEq, Int.reduceEq, Int.reduceLT, Int.reduceLE]))
      · have hlast : T[T0.length]? = some x := by rw [hT]; simp
        have hlen : lenOf T = T0.length + 1 := by rw [hT]; simp [lenOf]
        have hlT : T0.length < lenOf T := by omega
        have hT0 : T0.length < 100000 := by
          have := congrArg List.length hT
          have h2 : T.length = T0.length + 1 := hlen
          omega
        have hz : ¬ Int.ofNat (lenOf T) = 0 := by rw [hlen]; simp; omega
        have hw : wr .i64 (Int.sub (Int.ofNat (lenOf T)) 1) = Int.ofNat T0.length := by
          rw [hlen, fold_sub, wr_in] <;> simp <;> omega
        have hd := drop_cT hlast
        have hv : vs.getLast? = some x.1 := by rw [← h.vs, hT]; simp
        obtain ⟨x1, x2⟩ := x
        simp only at hv hd
        cases he : eq6 x1 (owV es now) with
        | false =>
          refine ⟨⟨na (na M 1) 1, .map true [] :: Q4, roomP p (lenOf (app T [(owV es now, na M 1)])), roomC p q (lenOf (app T [(owV es now, na M 1)]))⟩, ?_, _, _, _, rfl, new (by simp [askStep, hR, hv, he])⟩
          rw [hr]
          clear new same
          generalize owV es now = A at h96 e1 e2 e3 e4 e5 e6 hk80 happ s3 s4 e7 he ⊢
          unfold loop74 at e1 e2 e7 s1 s4
          (try simp only [go_sem, ↓reduceIte, Nat.reduceAdd, Nat.reduceEqDiff, Nat.reduceLT, Nat.reduceLeDiff, Nat.reduceBEq, Int.reduceEq, Int.reduceLT, Int.reduceLE]); (repeat ((first | rw [e1] | rw [s1] | simp only [h96] | rw [e3] | rw [e4] | rw [eq_n hz] | rw [hw] | rw [idxA_at hlT] | rw [hd] | simp only [he] | rw [hk80] | rw [happ] | rw [e5] | rw [e6] | rw [s3] | rw [e7] | rw [s4] | (rw [lt_yes]; rotate_left; (first | omega | (simp [lenOf, app]; omega) | (simp only [lenOf]; omega))) | (rw [lt_no]; rotate_left; (first | omega | (simp [lenOf, app]; omega) | (simp only [lenOf]; omega))) | (rw [idxA_at]; rotate_left; (first | omega | (simp [lenOf, app]; omega) | (simp only [lenOf]; omega))) | (rw [wr_up]; rotate_left; (first | omega | (simp [lenOf, app]; omega) | (simp only [lenOf]; omega))) | ((first | rw [drop_cI] | rw [drop_cE] | rw [drop_cS] | rw [drop_cP] | rw [drop_cR]); rotate_left; assumption)); try simp only [go_sem, ↓reduceIte, Nat.reduceAdd, Nat.reduceEqDiff, Nat.reduceLT, Nat.reduceLeDiff, Nat.reduceBEq, Int.reduceEq, Int.reduceLT, Int.reduceLE]))
        | true =>
          refine ⟨⟨na M 1, .cells (c6 (owV es now)) :: Q2, roomP p (lenOf T), roomC p q (lenOf T)⟩, ?_, T, _, _, rfl, same (by simp [askStep, hR, hv, he])⟩
          rw [hr]
          clear new same
          generalize owV es now = A at h96 e1 e2 e3 e4 e5 e6 hk80 happ s3 s4 e7 he ⊢
          unfold loop74 at e1 e2 s1 s2
          (try simp only [go_sem, ↓reduceIte, Nat.reduceAdd, Nat.reduceEqDiff, Nat.reduceLT, Nat.reduceLeDiff, Nat.reduceBEq, Int.reduceEq, Int.reduceLT, Int.reduceLE]); (repeat ((first | rw [e1] | rw [s1] | simp only [h96] | rw [e3] | rw [e4] | rw [eq_n hz] | rw [hw] | rw [idxA_at hlT] | rw [hd] | simp only [he] | rw [e2] | rw [s2] | (rw [lt_yes]; rotate_left; (first | omega | (simp [lenOf, app]; omega) | (simp only [lenOf]; omega))) | (rw [lt_no]; rotate_left; (first | omega | (simp [lenOf, app]; omega) | (simp only [lenOf]; omega))) | (rw [idxA_at]; rotate_left; (first | omega | (simp [lenOf, app]; omega) | (simp only [lenOf]; omega))) | (rw [wr_up]; rotate_left; (first | omega | (simp [lenOf, app]; omega) | (simp only [lenOf]; omega))) | ((first | rw [drop_cI] | rw [drop_cE] | rw [drop_cS] | rw [drop_cP] | rw [drop_cR]); rotate_left; assumption)); try simp only [go_sem, ↓reduceIte, Nat.reduceAdd, Nat.reduceEqDiff, Nat.reduceLT, Nat.reduceLeDiff, Nat.reduceBEq, Int.reduceEq, Int.reduceLT, Int.reduceLE]))
end Go.Proofs.Ytlhfeiacigmliaa
