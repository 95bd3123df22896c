/- The wash-house's soap: what the functions compute: payments of the other package, ranges in ranges, slates that are closer. -/
import Derived.Test.YtlhfeiacigmliaaPartI
set_option linter.all false
namespace Go.Proofs.Ytlhfeiacigmliaa
open Go
set_option maxRecDepth 10000

theorem l55 (w : Int) (es : List Ent) (ss : List Say) (P : List Pay) (hl : P.length < 1000000) (hP : ∀ x ∈ P, payOk w x = true) (s : St) : ∀ (k i : Nat), i + k = P.length →
   lim tbl (.loop a55_l0 34 ⟨[1, 2, 5], [], [4]⟩ [sl cP P, .vref [i64 w, sl cE es, sl cS ss], i64 (Int.ofNat i)]) s = some (.exit 0, [], s) := by
  intro k
  induction k with
  | zero =>
    intro i hi
    rw [lim_loop]
    obtain ⟨N, O, p, q⟩ := s
    (try simp only [go_sem, ↓reduceIte, Nat.reduceAdd, Nat.reduceEqDiff, Nat.reduceLT, Nat.reduceLeDiff, Nat.reduceBEq, Int.reduceEq, Int.reduceLT, Int.reduceLE]); (repeat ((first | (rw [lt_yes]; rotate_left; (first | omega | (simp [lenOf, app]; omega) | (simp only [lenOf]; omega))) | (rw [lt_no]; rotate_left; (first | omega | (simp [lenOf, app]; omega) | (simp only [lenOf]; omega))) | (rw [idxA_at]; rotate_left; (first | omega | (simp [lenOf, app]; omega) | (simp only [lenOf]; omega))) | (rw [wr_up]; rotate_left; (first | omega | (simp [lenOf, app]; omega) | (simp only [lenOf]; omega))) | ((first | rw [drop_cI] | rw [drop_cE] | rw [drop_cS] | rw [drop_cP] | rw [drop_cR]); rotate_left; assumption)); try simp only [go_sem, ↓reduceIte, Nat.reduceAdd, Nat.reduceEqDiff, Nat.reduceLT, Nat.reduceLeDiff, Nat.reduceBEq, Int.reduceEq, Int.reduceLT, Int.reduceLE]))
  | succ k ih =>
    intro i hi
    have hlt : i < P.length := by omega
    obtain ⟨x, hx, _⟩ := getElem_drop hlt
    have hok := hP x (List.mem_of_getElem? hx)
    obtain ⟨f, t, n⟩ := x
    unfold payOk at hok
    rw [Bool.and_eq_true] at hok
    obtain ⟨o1, o2⟩ := hok
    simp only at o1 o2
    have h' := ih (i + 1) (by omega)
    rw [lim_loop]
    generalize hR : some (_, _, _) = R at h' ⊢
    obtain ⟨N, O, p, q⟩ := s
    (try simp only [go_sem, ↓reduceIte, Nat.reduceAdd, Nat.reduceEqDiff, Nat.reduceLT, Nat.reduceLeDiff, Nat.reduceBEq, Int.reduceEq, Int.reduceLT, Int.reduceLE]); (repeat ((first | rw [o1] | rw [o2] | (rw [lt_yes]; rotate_left; (first | omega | (simp [lenOf, app]; omega) | (simp only [lenOf]; omega))) | (rw [lt_no]; rotate_left; (first | omega | (simp [lenOf, app]; omega) | (simp only [lenOf]; omega))) | (rw [idxA_at]; rotate_left; (first | omega | (simp [lenOf, app]; omega) | (simp only [lenOf]; omega))) | (rw [wr_up]; rotate_left; (first | omega | (simp [lenOf, app]; omega) | (simp only [lenOf]; omega))) | ((first | rw [drop_cI] | rw [drop_cE] | rw [drop_cS] | rw [drop_cP] | rw [drop_cR]); rotate_left; assumption)); try simp only [go_sem, ↓reduceIte, Nat.reduceAdd, Nat.reduceEqDiff, Nat.reduceLT, Nat.reduceLeDiff, Nat.reduceBEq, Int.reduceEq, Int.reduceLT, Int.reduceLE]))
    exact h'
theorem k55 (S : Slate) (P : List Pay) (hl : P.length < 1000000) (hP : ∀ x ∈ P, payOk S.women x = true) (s : St) : lim tbl (.call 55 [vSl S, sl cP P]) s = some (.ret, [.bool true], s) := by
  obtain ⟨w, es, ss⟩ := S
  have h0 := fun s => l55 w es ss P hl hP s P.length 0 (by omega)
  rw [ofNat_0] at h0
  rw [lim_call tbl_55]
  obtain ⟨N, O, p, q⟩ := s
  (try simp only [go_sem, ↓reduceIte, Nat.reduceAdd, Nat.reduceEqDiff, Nat.reduceLT, Nat.reduceLeDiff, Nat.reduceBEq, Int.reduceEq, Int.reduceLT, Int.reduceLE]); (repeat ((first | simp only [h0] | (rw [lt_yes]; rotate_left; (first | omega | (simp [lenOf, app]; omega) | (simp only [lenOf]; omega))) | (rw [lt_no]; rotate_left; (first | omega | (simp [lenOf, app]; omega) | (simp only [lenOf]; omega))) | (rw [idxA_at]; rotate_left; (first | omega | (simp [lenOf, app]; omega) | (simp only [lenOf]; omega))) | (rw [wr_up]; rotate_left; (first | omega | (simp [lenOf, app]; omega) | (simp only [lenOf]; omega))) | ((first | rw [drop_cI] | rw [drop_cE] | rw [drop_cS] | rw [drop_cP] | rw [drop_cR]); rotate_left; assumption)); try simp only [go_sem, ↓reduceIte, Nat.reduceAdd, Nat.reduceEqDiff, Nat.reduceLT, Nat.reduceLeDiff, Nat.reduceBEq, Int.reduceEq, Int.reduceLT, Int.reduceLE]))
theorem l56 (P : List Pay) (hl : P.length < 1000000) (N : Nat) (O : List AObj) (p : Nat) (q : Nat → Nat) : ∀ (k i : Nat) (acc : List Pay), i + k = P.length → acc.length = i →
   lim tbl (.loop a56_l0 31 ⟨[0, 3, 4], [3], []⟩ [sl cP P, ownSl cP p acc, i64 (Int.ofNat i)]) ⟨N, O, roomP p (lenOf acc), roomC p q (lenOf acc)⟩
   = some (.exit 0, [ownSl cP p (app acc (P.drop i))], ⟨N, O, roomP p (lenOf (app acc (P.drop i))), roomC p q (lenOf (app acc (P.drop i)))⟩) := by
  intro k
  induction k with
  | zero =>
    intro i acc hi ha
    rw [List.drop_eq_nil_of_le (by omega), app_nil, lim_loop]
    (try simp only [go_sem, ↓reduceIte, Nat.reduceAdd, Nat.reduceEqDiff, Nat.reduceLT, Nat.reduceLeDiff, Nat.reduceBEq, Int.reduceEq, Int.reduceLT, Int.reduceLE]); (repeat ((first | (rw [lt_yes]; rotate_left; (first | omega | (simp [lenOf, app]; omega) | (simp only [lenOf]; omega))) | (rw [lt_no]; rotate_left; (first | omega | (simp [lenOf, app]; omega) | (simp only [lenOf]; omega))) | (rw [idxA_at]; rotate_left; (first | omega | (simp [lenOf, app]; omega) | (simp only [lenOf]; omega))) | (rw [wr_up]; rotate_left; (first | omega | (simp [lenOf, app]; omega) | (simp only [lenOf]; omega))) | ((first | rw [drop_cI] | rw [drop_cE] | rw [drop_cS] | rw [drop_cP] | rw [drop_cR]); rotate_left; assumption)); try simp only [go_sem, ↓reduceIte, Nat.reduceAdd, Nat.reduceEqDiff, Nat.reduceLT, Nat.reduceLeDiff, Nat.reduceBEq, Int.reduceEq, Int.reduceLT, Int.reduceLE]))
  | succ k ih =>
    intro i acc hi ha
    have hlt : i < P.length := by omega
    obtain ⟨e, he, hd⟩ := getElem_drop hlt
    obtain ⟨f, t, n⟩ := e
    rw [hd, app_assoc]
    have hx := append_own (f := cP) (sz := 3) (fun _ => rfl) 24 p q N O acc ⟨f, t, n⟩ [i64 f, i64 t, i64 n] rfl .full (by omega) (by omega)
    have h' := ih (i + 1) (app acc [⟨f, t, n⟩]) (by omega) (by simp [app]; omega)
    rw [lim_loop]
    generalize hR : some (_, _, _) = R at h' ⊢
    (try simp only [go_sem, ↓reduceIte, Nat.reduceAdd, Nat.reduceEqDiff, Nat.reduceLT, Nat.reduceLeDiff, Nat.reduceBEq, Int.reduceEq, Int.reduceLT, Int.reduceLE]); (repeat ((first | rw [hx] | (rw [lt_yes]; rotate_left; (first | omega | (simp [lenOf, app]; omega) | (simp only [lenOf]; omega))) | (rw [lt_no]; rotate_left; (first | omega | (simp [lenOf, app]; omega) | (simp only [lenOf]; omega))) | (rw [idxA_at]; rotate_left; (first | omega | (simp [lenOf, app]; omega) | (simp only [lenOf]; omega))) | (rw [wr_up]; rotate_left; (first | omega | (simp [lenOf, app]; omega) | (simp only [lenOf]; omega))) | ((first | rw [drop_cI] | rw [drop_cE] | rw [drop_cS] | rw [drop_cP] | rw [drop_cR]); rotate_left; assumption)); try simp only [go_sem, ↓reduceIte, Nat.reduceAdd, Nat.reduceEqDiff, Nat.reduceLT, Nat.reduceLeDiff, Nat.reduceBEq, Int.reduceEq, Int.reduceLT, Int.reduceLE]))
    exact h'
theorem k56 (P : List Pay) (hl : P.length < 1000000) (s : St) : lim tbl (.call 56 [sl cP P]) s = some (.ret, [sl cP P], s) := by
  rw [lim_call tbl_56]; obtain ⟨N, O, p, q⟩ := s
  have h0 := l56 P hl N O p q P.length 0 [] (by omega) rfl
  rw [List.drop_zero, nil_app, ownSl_nil, show lenOf ([] : List Pay) = 0 from rfl, roomP_0, roomC_0, ofNat_0] at h0
  (try simp only [go_sem, ↓reduceIte, Nat.reduceAdd, Nat.reduceEqDiff, Nat.reduceLT, Nat.reduceLeDiff, Nat.reduceBEq, Int.reduceEq, Int.reduceLT, Int.reduceLE]); (repeat ((first | rw [h0] | (rw [lt_yes]; rotate_left; (first | omega | (simp [lenOf, app]; omega) | (simp only [lenOf]; omega))) | (rw [lt_no]; rotate_left; (first | omega | (simp [lenOf, app]; omega) | (simp only [lenOf]; omega))) | (rw [idxA_at]; rotate_left; (first | omega | (simp [lenOf, app]; omega) | (simp only [lenOf]; omega))) | (rw [wr_up]; rotate_left; (first | omega | (simp [lenOf, app]; omega) | (simp only [lenOf]; omega))) | ((first | rw [drop_cI] | rw [drop_cE] | rw [drop_cS] | rw [drop_cP] | rw [drop_cR]); rotate_left; assumption)); try simp only [go_sem, ↓reduceIte, Nat.reduceAdd, Nat.reduceEqDiff, Nat.reduceLT, Nat.reduceLeDiff, Nat.reduceBEq, Int.reduceEq, Int.reduceLT, Int.reduceLE]))
/-- The first slate's answers are as close as the second one's. -/
structure CloserOk (X S : Slate) : Prop where
  ex : askedErr X = 0
  es : askedErr S = 0
  xl : X.es.length < 1000000 ∧ X.ss.length < 1000000
  sl : S.es.length < 1000000 ∧ S.ss.length < 1000000
  bl : (boundsL X).length < 1000000 ∧ (boundsL X).length = (boundsL S).length
  bo : ∀ (i : Nat) (x y : Rng), (boundsL X)[i]? = some x → (boundsL S)[i]? = some y → y.lo ≤ x.lo ∧ x.hi ≤ y.hi
  ow : ∀ (i : Nat) (x y : Int), ((boundsL S).map owesF)[i]? = some x → ((boundsL X).map owesF)[i]? = some y → x = 3 ∨ x = y
  fw : (fewestP S).1 ≤ (fewestP X).1 ∧ (fewestP X).2 ≤ (fewestP S).2
end Go.Proofs.Ytlhfeiacigmliaa

/- The wash-house's soap: what the functions compute: whether payments settle all, by both packages. -/
namespace Go.Proofs.Ytlhfeiacigmliaa
open Go
set_option maxRecDepth 10000

theorem l55b (w : Int) (es : List Ent) (ss : List Say) (P : List Pay) (hl : P.length < 1000000) (s : St) : ∀ (k i : Nat), i + k = P.length → ∀ R,
   R = (if allB (payOk w) (P.drop i) then some (.exit 0, [], s) else some (.ret, [.bool false], s)) →
   lim tbl (.loop a55_l0 34 ⟨[1, 2, 5], [], [4]⟩ [sl cP P, .vref [i64 w, sl cE es, sl cS ss], i64 (Int.ofNat i)]) s = R := by
  intro k
  induction k with
  | zero =>
    intro i hi R hR
    rw [List.drop_eq_nil_of_le (by omega)] at hR
    simp only [allB, List.all_nil, if_true] at hR
    rw [lim_loop]
    obtain ⟨N, O, p, q⟩ := s
    (try simp only [go_sem, ↓reduceIte, Nat.reduceAdd, Nat.reduceEqDiff, Nat.reduceLT, Nat.reduceLeDiff, Nat.reduceBEq, Int.reduceEq, Int.reduceLT, Int.reduceLE]); (repeat ((first | (rw [lt_yes]; rotate_left; (first | omega | (simp [lenOf, app]; omega) | (simp only [lenOf]; omega))) | (rw [lt_no]; rotate_left; (first | omega | (simp [lenOf, app]; omega) | (simp only [lenOf]; omega))) | (rw [idxA_at]; rotate_left; (first | omega | (simp [lenOf, app]; omega) | (simp only [lenOf]; omega))) | (rw [wr_up]; rotate_left; (first | omega | (simp [lenOf, app]; omega) | (simp only [lenOf]; omega))) | ((first | rw [drop_cI] | rw [drop_cE] | rw [drop_cS] | rw [drop_cP] | rw [drop_cR]); rotate_left; assumption)); try simp only [go_sem, ↓reduceIte, Nat.reduceAdd, Nat.reduceEqDiff, Nat.reduceLT, Nat.reduceLeDiff, Nat.reduceBEq, Int.reduceEq, Int.reduceLT, Int.reduceLE]))
    exact hR.symm
  | succ k ih =>
    intro i hi R hR
    have hlt : i < P.length := by omega
    obtain ⟨x, hx, hd⟩ := getElem_drop hlt
    have h' := ih (i + 1) (by omega) R
    obtain ⟨f, t, n⟩ := x
    have hA : allB (payOk w) (⟨f, t, n⟩ :: P.drop (i + 1)) = (pair w f t && within n 1 240 && allB (payOk w) (P.drop (i + 1))) := by simp [allB, payOk]
    rw [hd, hA] at hR
    rw [lim_loop]
    obtain ⟨N, O, p, q⟩ := s
    cases o1 : pair w f t with
    | false =>
      rw [o1] at hR
      simp only [Bool.false_and, Bool.false_eq_true, if_false] at hR
      (try simp only [go_sem, ↓reduceIte, Nat.reduceAdd, Nat.reduceEqDiff, Nat.reduceLT, Nat.reduceLeDiff, Nat.reduceBEq, Int.reduceEq, Int.reduceLT, Int.reduceLE]); (repeat ((first | rw [o1] | (rw [lt_yes]; rotate_left; (first | omega | (simp [lenOf, app]; omega) | (simp only [lenOf]; omega))) | (rw [lt_no]; rotate_left; (first | omega | (simp [lenOf, app]; omega) | (simp only [lenOf]; omega))) | (rw [idxA_at]; rotate_left; (first | omega | (simp [lenOf, app]; omega) | (simp only [lenOf]; omega))) | (rw [wr_up]; rotate_left; (first | omega | (simp [lenOf, app]; omega) | (simp only [lenOf]; omega))) | ((first | rw [drop_cI] | rw [drop_cE] | rw [drop_cS] | rw [drop_cP] | rw [drop_cR]); rotate_left; assumption)); try simp only [go_sem, ↓reduceIte, Nat.reduceAdd, Nat.reduceEqDiff, Nat.reduceLT, Nat.reduceLeDiff, Nat.reduceBEq, Int.reduceEq, Int.reduceLT, Int.reduceLE]))
      exact hR.symm
    | true =>
      cases o2 : within n 1 240 with
      | false =>
        rw [o1, o2] at hR
        simp only [Bool.and_false, Bool.false_and, Bool.false_eq_true, if_false] at hR
        (try simp only [go_sem, ↓reduceIte, Nat.reduceAdd, Nat.reduceEqDiff, Nat.reduceLT, Nat.reduceLeDiff, Nat.reduceBEq, Int.reduceEq, Int.reduceLT, Int.reduceLE]); (repeat ((first | rw [o1] | rw [o2] | (rw [lt_yes]; rotate_left; (first | omega | (simp [lenOf, app]; omega) | (simp only [lenOf]; omega))) | (rw [lt_no]; rotate_left; (first | omega | (simp [lenOf, app]; omega) | (simp only [lenOf]; omega))) | (rw [idxA_at]; rotate_left; (first | omega | (simp [lenOf, app]; omega) | (simp only [lenOf]; omega))) | (rw [wr_up]; rotate_left; (first | omega | (simp [lenOf, app]; omega) | (simp only [lenOf]; omega))) | ((first | rw [drop_cI] | rw [drop_cE] | rw [drop_cS] | rw [drop_cP] | rw [drop_cR]); rotate_left; assumption)); try simp only [go_sem, ↓reduceIte, Nat.reduceAdd, Nat.reduceEqDiff, Nat.reduceLT, Nat.reduceLeDiff, Nat.reduceBEq, Int.reduceEq, Int.reduceLT, Int.reduceLE]))
        exact hR.symm
      | true =>
        rw [o1, o2] at hR
        simp only [Bool.true_and] at hR
        (try simp only [go_sem, ↓reduceIte, Nat.reduceAdd, Nat.reduceEqDiff, Nat.reduceLT, Nat.reduceLeDiff, Nat.reduceBEq, Int.reduceEq, Int.reduceLT, Int.reduceLE]); (repeat ((first | rw [o1] | rw [o2] | (rw [lt_yes]; rotate_left; (first | omega | (simp [lenOf, app]; omega) | (simp only [lenOf]; omega))) | (rw [lt_no]; rotate_left; (first | omega | (simp [lenOf, app]; omega) | (simp only [lenOf]; omega))) | (rw [idxA_at]; rotate_left; (first | omega | (simp [lenOf, app]; omega) | (simp only [lenOf]; omega))) | (rw [wr_up]; rotate_left; (first | omega | (simp [lenOf, app]; omega) | (simp only [lenOf]; omega))) | ((first | rw [drop_cI] | rw [drop_cE] | rw [drop_cS] | rw [drop_cP] | rw [drop_cR]); rotate_left; assumption)); try simp only [go_sem, ↓reduceIte, Nat.reduceAdd, Nat.reduceEqDiff, Nat.reduceLT, Nat.reduceLeDiff, Nat.reduceBEq, Int.reduceEq, Int.reduceLT, Int.reduceLE]))
        exact h' hR
theorem k55b (S : Slate) (P : List Pay) (hl : P.length < 1000000) (s : St) : lim tbl (.call 55 [vSl S, sl cP P]) s = some (.ret, [.bool (allB (payOk S.women) P)], s) := by
  obtain ⟨w, es, ss⟩ := S
  have h0 := fun s => l55b w es ss P hl s P.length 0 (by omega) _ rfl
  rw [ofNat_0, List.drop_zero] at h0
  rw [lim_call tbl_55]
  obtain ⟨N, O, p, q⟩ := s
  simp only
  cases hb : allB (payOk w) P with
  | true =>
    rw [hb] at h0; simp only [if_true] at h0
    (try simp only [go_sem, ↓reduceIte, Nat.reduceAdd, Nat.reduceEqDiff, Nat.reduceLT, Nat.reduceLeDiff, Nat.reduceBEq, Int.reduceEq, Int.reduceLT, Int.reduceLE]); (repeat ((first | simp only [h0] | (rw [lt_yes]; rotate_left; (first | omega | (simp [lenOf, app]; omega) | (simp only [lenOf]; omega))) | (rw [lt_no]; rotate_left; (first | omega | (simp [lenOf, app]; omega) | (simp only [lenOf]; omega))) | (rw [idxA_at]; rotate_left; (first | omega | (simp [lenOf, app]; omega) | (simp only [lenOf]; omega))) | (rw [wr_up]; rotate_left; (first | omega | (simp [lenOf, app]; omega) | (simp only [lenOf]; omega))) | ((first | rw [drop_cI] | rw [drop_cE] | rw [drop_cS] | rw [drop_cP] | rw [drop_cR]); rotate_left; assumption)); try simp only [go_sem, ↓reduceIte, Nat.reduceAdd, Nat.reduceEqDiff, Nat.reduceLT, Nat.reduceLeDiff, Nat.reduceBEq, Int.reduceEq, Int.reduceLT, Int.reduceLE]))
  | false =>
    rw [hb] at h0; simp only [Bool.false_eq_true, if_false] at h0
    (try simp only [go_sem, ↓reduceIte, Nat.reduceAdd, Nat.reduceEqDiff, Nat.reduceLT, Nat.reduceLeDiff, Nat.reduceBEq, Int.reduceEq, Int.reduceLT, Int.reduceLE]); (repeat ((first | simp only [h0] | (rw [lt_yes]; rotate_left; (first | omega | (simp [lenOf, app]; omega) | (simp only [lenOf]; omega))) | (rw [lt_no]; rotate_left; (first | omega | (simp [lenOf, app]; omega) | (simp only [lenOf]; omega))) | (rw [idxA_at]; rotate_left; (first | omega | (simp [lenOf, app]; omega) | (simp only [lenOf]; omega))) | (rw [wr_up]; rotate_left; (first | omega | (simp [lenOf, app]; omega) | (simp only [lenOf]; omega))) | ((first | rw [drop_cI] | rw [drop_cE] | rw [drop_cS] | rw [drop_cP] | rw [drop_cR]); rotate_left; assumption)); try simp only [go_sem, ↓reduceIte, Nat.reduceAdd, Nat.reduceEqDiff, Nat.reduceLT, Nat.reduceLeDiff, Nat.reduceBEq, Int.reduceEq, Int.reduceLT, Int.reduceLE]))
/-- What is owed after payments. -/
def setUp (w : Int) : Int → List Pay → Int
  | n, [] => n
  | n, x :: l => setUp w (if x.to = w then wr .i64 (Int.sub (if x.fr = w then wr .i64 (Int.add n x.oz) else n) x.oz) else (if x.fr = w then wr .i64 (Int.add n x.oz) else n)) l
def zeroAt (es : List Ent) (L : List Int) (P : List Pay) (j : Nat) : Bool := decide (setUp (Int.ofNat j) (owedUp 0 (Int.ofNat j) es L) P = 0)
/-- Whether payments settle all, by the document. -/
def settlesR (S : Slate) (L : List Int) (P : List Pay) : Bool := (List.range' 0 S.women.toNat).all (zeroAt S.es L P)
def OkFP (P : List Pay) : Prop := ∀ x ∈ P, ∃ f t : Nat, f < 6 ∧ t < 6 ∧ x.fr = Int.ofNat f ∧ x.to = Int.ofNat t
theorem l67 (P : List Pay) (hP : P.length < 1000000) (hF : OkFP P) (N : Nat) (O : List AObj) (p : Nat) (q : Nat → Nat) : ∀ (k i : Nat) (a : Nat → Int) (M : Nat) (Q : List AObj), i + k = P.length → Under N O (.cells (c6 a)) M Q →
   ∃ M' Q', Under N O (.cells (c6 fun j => setUp (Int.ofNat j) (a j) (P.drop i))) M' Q' ∧
   lim tbl (.loop a67_l0 60 ⟨[9, 34, 35, 36], [9], []⟩ [.ptr N 0, sl cP P, i64 (Int.ofNat (lenOf P)), i64 (Int.ofNat i)]) ⟨M, Q, p, q⟩ = some (.exit 0, [.ptr N 0], ⟨M', Q', p, q⟩) := by
  intro k
  induction k with
  | zero =>
    intro i a M Q hi hU
    refine ⟨M, Q, ?_, ?_⟩
    · rw [List.drop_eq_nil_of_le (by omega)]; exact hU
    · rw [lim_loop]
      (try simp only [go_sem, ↓reduceIte, Nat.reduceAdd, Nat.reduceEqDiff, Nat.reduceLT, Nat.reduceLeDiff, Nat.reduceBEq, Int.reduceEq, Int.reduceLT, Int.reduceLE]); (repeat ((first | (rw [lt_yes]; rotate_left; (first | omega | (simp [lenOf, app]; omega) | (simp only [lenOf]; omega))) | (rw [lt_no]; rotate_left; (first | omega | (simp [lenOf, app]; omega) | (simp only [lenOf]; omega))) | (rw [idxA_at]; rotate_left; (first | omega | (simp [lenOf, app]; omega) | (simp only [lenOf]; omega))) | (rw [wr_up]; rotate_left; (first | omega | (simp [lenOf, app]; omega) | (simp only [lenOf]; omega))) | ((first | rw [drop_cI] | rw [drop_cE] | rw [drop_cS] | rw [drop_cP] | rw [drop_cR]); rotate_left; assumption)); try simp only [go_sem, ↓reduceIte, Nat.reduceAdd, Nat.reduceEqDiff, Nat.reduceLT, Nat.reduceLeDiff, Nat.reduceBEq, Int.reduceEq, Int.reduceLT, Int.reduceLE]))
  | succ k ih =>
    intro i a M Q hi hU
    have hlt : i < P.length := by omega
    obtain ⟨e, he, hd⟩ := getElem_drop hlt
    obtain ⟨f, t, hf, ht, h1, h2⟩ := hF e (List.mem_of_getElem? he)
    obtain ⟨fr, to, x⟩ := e
    simp only at h1 h2
    subst h1 h2
    rw [hd]
    have g1 := hU.get1 (.cells [i64 (Int.ofNat f), i64 (Int.ofNat t), i64 x]) p q
    obtain ⟨Q1, hU1, _, s1⟩ := hU.set (.cells (c6 (put a f (wr .i64 (Int.add (a f) x)))))
    have g2 := hU1.get1 (.cells [i64 (Int.ofNat f), i64 (Int.ofNat t), i64 x]) p q
    obtain ⟨Q2, hU2, _, s2⟩ := hU1.set (.cells (c6 (put (put a f (wr .i64 (Int.add (a f) x))) t (wr .i64 (Int.sub (put a f (wr .i64 (Int.add (a f) x)) t) x)))))
    obtain ⟨M', Q', hU', h'⟩ := ih (i + 1) _ _ _ (by omega) (hU2.push (.cells [i64 (Int.ofNat f), i64 (Int.ofNat t), i64 x]))
    refine ⟨M', Q', ?_, ?_⟩
    · have : (fun j => setUp (Int.ofNat j) (put (put a f (wr .i64 (Int.add (a f) x))) t (wr .i64 (Int.sub (put a f (wr .i64 (Int.add (a f) x)) t) x)) j) (P.drop (i + 1)))
        = (fun j => setUp (Int.ofNat j) (a j) (⟨Int.ofNat f, Int.ofNat t, x⟩ :: P.drop (i + 1))) := by
        funext j
        rw [setUp]
        simp only [put, Int.ofNat.injEq]
        congr 1
        by_cases hj1 : j = t
        · subst hj1
          by_cases hj2 : j = f
          · subst hj2; simp
          · simp [hj2, Ne.symm hj2]
        · by_cases hj2 : j = f
          · subst hj2; simp [hj1, Ne.symm hj1]
          · simp [hj1, hj2, Ne.symm hj1, Ne.symm hj2]
      rw [← this]; exact hU'
    · rw [lim_loop]
      generalize hR : some (_, _, _) = R at h' ⊢
      have n1 := nthO_c6 a hf
      have n2 := nthO_c6 (put a f (wr .i64 (Int.add (a f) x))) ht
      have p1 := fun s b => storeP_c6_1 s b a (wr .i64 (Int.add (a f) x)) hf
      have p2 := fun s b => storeP_c6_1 s b (put a f (wr .i64 (Int.add (a f) x))) (wr .i64 (Int.sub (put a f (wr .i64 (Int.add (a f) x)) t) x)) ht
      (try simp only [go_sem, ↓reduceIte, Nat.reduceAdd, Nat.reduceEqDiff, Nat.reduceLT, Nat.reduceLeDiff, Nat.reduceBEq, Int.reduceEq, Int.reduceLT, Int.reduceLE]); (repeat ((first | rw [g1] | rw [n1] | rw [p1] | rw [s1] | rw [g2] | rw [n2] | rw [p2] | rw [s2] | (rw [lt_yes]; rotate_left; (first | omega | (simp [lenOf, app]; omega) | (simp only [lenOf]; omega))) | (rw [lt_no]; rotate_left; (first | omega | (simp [lenOf, app]; omega) | (simp only [lenOf]; omega))) | (rw [idxA_at]; rotate_left; (first | omega | (simp [lenOf, app]; omega) | (simp only [lenOf]; omega))) | (rw [wr_up]; rotate_left; (first | omega | (simp [lenOf, app]; omega) | (simp only [lenOf]; omega))) | ((first | rw [drop_cI] | rw [drop_cE] | rw [drop_cS] | rw [drop_cP] | rw [drop_cR]); rotate_left; assumption)); try simp only [go_sem, ↓reduceIte, Nat.reduceAdd, Nat.reduceEqDiff, Nat.reduceLT, Nat.reduceLeDiff, Nat.reduceBEq, Int.reduceEq, Int.reduceLT, Int.reduceLE]))
      exact h'
def proveS (S : Slate) (L : List Int) (P : List Pay) (many : Int) : Bool :=
  decide (playErr S L = 0) && (decide (Int.ofNat (lenOf P) ≤ many) && (allB (payOk S.women) P && eq6 (fun j => setUp (Int.ofNat j) (playOw S L j) P) (fun _ => 0)))
theorem pay_women {w : Int} (h6 : w ≤ 6) {P : List Pay} (h : allB (payOk w) P = true) (hw0 : 0 ≤ w) : OkFP P := by
  intro x hx
  simp only [allB, List.all_eq_true] at h
  have := h x hx
  have hwr : wr .i64 (w - 1) = w - 1 := wr_in (by omega) (by omega)
  simp only [payOk, pair, woman, hwr, Bool.and_eq_true, within_iff] at this
  obtain ⟨⟨⟨a1, a2⟩, ⟨b1, b2⟩, _⟩, _⟩ := this
  exact ⟨x.fr.toNat, x.to.toNat, by omega, by omega, by simp; omega, by simp; omega⟩
theorem eq6_z (a : Nat → Int) : eqCells [0, 0, 0, 0, 0, 0] (c6 a) [i64 0, i64 0, i64 0, i64 0, i64 0, i64 0] = some (eq6 a fun _ => 0) := eqCells_c6 a fun _ => 0
theorem k67 (S : Slate) (L : List Int) (P : List Pay) (many : Int) (hP : P.length < 1000000) (s : St) : lim tbl (.call 67 [vSl S, sl cI L, sl cP P, i64 many]) s = some (.ret, [.bool (proveS S L P many)], s) := by
  have h79 := fun s => k79 S L good_of_check s
  rw [lim_call tbl_67]
  obtain ⟨N, O, p, q⟩ := s
  generalize hR : proveS S L P many = R
  unfold proveS at hR
  by_cases he : playErr S L = 0
  · have hc := play_check he
    have hG := good_of_check hc
    have hw0 := hG.w0
    have hw6 := hG.w6
    rw [he] at h79
    simp only [he, decide_true, Bool.true_and] at hR
    generalize playOw S L = a at h79 hR
    obtain ⟨w, es, ss⟩ := S
    simp only at hR hw0 hw6
    by_cases hm : Int.ofNat (lenOf P) ≤ many
    · have hm' : ¬ many < Int.ofNat (lenOf P) := by omega
      simp only [hm, decide_true, Bool.true_and] at hR
      have hA := fun s => k104 (P := payOk w) (f := .func 105) (fa := [vSl ⟨w, es, ss⟩]) (fb := []) (by (try simp only [go_sem, ↓reduceIte, Nat.reduceAdd, Nat.reduceEqDiff, Nat.reduceLT, Nat.reduceLeDiff, Nat.reduceBEq, Int.reduceEq, Int.reduceLT, Int.reduceLE])) (by (try simp only [go_sem, ↓reduceIte, Nat.reduceAdd, Nat.reduceEqDiff, Nat.reduceLT, Nat.reduceLeDiff, Nat.reduceBEq, Int.reduceEq, Int.reduceLT, Int.reduceLE])) s P hP (fun e _ => by obtain ⟨a, b, n⟩ := e; (try simp only [go_sem, ↓reduceIte, Nat.reduceAdd, Nat.reduceEqDiff, Nat.reduceLT, Nat.reduceLeDiff, Nat.reduceBEq, Int.reduceEq, Int.reduceLT, Int.reduceLE]))
      cases hb : allB (payOk w) P with
      | false =>
        rw [hb] at hA hR
        simp only [Bool.false_and] at hR
        subst hR
        (try simp only [go_sem, ↓reduceIte, Nat.reduceAdd, Nat.reduceEqDiff, Nat.reduceLT, Nat.reduceLeDiff, Nat.reduceBEq, Int.reduceEq, Int.reduceLT, Int.reduceLE]); (repeat ((first | simp only [h79] | rw [lt_n hm'] | simp only [hA] | (rw [lt_yes]; rotate_left; (first | omega | (simp [lenOf, app]; omega) | (simp only [lenOf]; omega))) | (rw [lt_no]; rotate_left; (first | omega | (simp [lenOf, app]; omega) | (simp only [lenOf]; omega))) | (rw [idxA_at]; rotate_left; (first | omega | (simp [lenOf, app]; omega) | (simp only [lenOf]; omega))) | (rw [wr_up]; rotate_left; (first | omega | (simp [lenOf, app]; omega) | (simp only [lenOf]; omega))) | ((first | rw [drop_cI] | rw [drop_cE] | rw [drop_cS] | rw [drop_cP] | rw [drop_cR]); rotate_left; assumption)); try simp only [go_sem, ↓reduceIte, Nat.reduceAdd, Nat.reduceEqDiff, Nat.reduceLT, Nat.reduceLeDiff, Nat.reduceBEq, Int.reduceEq, Int.reduceLT, Int.reduceLE]))
      | true =>
        rw [hb] at hA hR
        simp only [Bool.true_and] at hR
        have hF := pay_women hw6 hb hw0
        obtain ⟨M, Q, hU, h0⟩ := l67 P hP hF N O p q P.length 0 a (na N 1) (.cells (c6 a) :: O) (by omega) (Under.init ..)
        rw [ofNat_0] at h0
        rw [List.drop_zero] at hU
        have g1 := hU.get p q
        have ho := hU.old p q
        have hz := eq6_z (fun j => setUp (Int.ofNat j) (a j) P)
        rw [hR] at hz
        generalize (fun j => setUp (Int.ofNat j) (a j) P) = b at g1 hz
        (try simp only [go_sem, ↓reduceIte, Nat.reduceAdd, Nat.reduceEqDiff, Nat.reduceLT, Nat.reduceLeDiff, Nat.reduceBEq, Int.reduceEq, Int.reduceLT, Int.reduceLE]); (repeat ((first | simp only [h79] | rw [lt_n hm'] | simp only [hA] | rw [h0] | rw [g1] | rw [hz] | rw [ho] | (rw [lt_yes]; rotate_left; (first | omega | (simp [lenOf, app]; omega) | (simp only [lenOf]; omega))) | (rw [lt_no]; rotate_left; (first | omega | (simp [lenOf, app]; omega) | (simp only [lenOf]; omega))) | (rw [idxA_at]; rotate_left; (first | omega | (simp [lenOf, app]; omega) | (simp only [lenOf]; omega))) | (rw [wr_up]; rotate_left; (first | omega | (simp [lenOf, app]; omega) | (simp only [lenOf]; omega))) | ((first | rw [drop_cI] | rw [drop_cE] | rw [drop_cS] | rw [drop_cP] | rw [drop_cR]); rotate_left; assumption)); try simp only [go_sem, ↓reduceIte, Nat.reduceAdd, Nat.reduceEqDiff, Nat.reduceLT, Nat.reduceLeDiff, Nat.reduceBEq, Int.reduceEq, Int.reduceLT, Int.reduceLE]))
    · have hm' : many < Int.ofNat (lenOf P) := by omega
      simp only [hm, decide_false, Bool.false_and] at hR
      subst hR
      (try simp only [go_sem, ↓reduceIte, Nat.reduceAdd, Nat.reduceEqDiff, Nat.reduceLT, Nat.reduceLeDiff, Nat.reduceBEq, Int.reduceEq, Int.reduceLT, Int.reduceLE]); (repeat ((first | simp only [h79] | rw [lt_y hm'] | (rw [lt_yes]; rotate_left; (first | omega | (simp [lenOf, app]; omega) | (simp only [lenOf]; omega))) | (rw [lt_no]; rotate_left; (first | omega | (simp [lenOf, app]; omega) | (simp only [lenOf]; omega))) | (rw [idxA_at]; rotate_left; (first | omega | (simp [lenOf, app]; omega) | (simp only [lenOf]; omega))) | (rw [wr_up]; rotate_left; (first | omega | (simp [lenOf, app]; omega) | (simp only [lenOf]; omega))) | ((first | rw [drop_cI] | rw [drop_cE] | rw [drop_cS] | rw [drop_cP] | rw [drop_cR]); rotate_left; assumption)); try simp only [go_sem, ↓reduceIte, Nat.reduceAdd, Nat.reduceEqDiff, Nat.reduceLT, Nat.reduceLeDiff, Nat.reduceBEq, Int.reduceEq, Int.reduceLT, Int.reduceLE]))
  · simp only [he, decide_false, Bool.false_and] at hR
    subst hR
    generalize playErr S L = e at h79 he
    generalize playOw S L = a at h79
    obtain ⟨w, es, ss⟩ := S
    (try simp only [go_sem, ↓reduceIte, Nat.reduceAdd, Nat.reduceEqDiff, Nat.reduceLT, Nat.reduceLeDiff, Nat.reduceBEq, Int.reduceEq, Int.reduceLT, Int.reduceLE]); (repeat ((first | simp only [h79] | rw [eq_n he] | (rw [lt_yes]; rotate_left; (first | omega | (simp [lenOf, app]; omega) | (simp only [lenOf]; omega))) | (rw [lt_no]; rotate_left; (first | omega | (simp [lenOf, app]; omega) | (simp only [lenOf]; omega))) | (rw [idxA_at]; rotate_left; (first | omega | (simp [lenOf, app]; omega) | (simp only [lenOf]; omega))) | (rw [wr_up]; rotate_left; (first | omega | (simp [lenOf, app]; omega) | (simp only [lenOf]; omega))) | ((first | rw [drop_cI] | rw [drop_cE] | rw [drop_cS] | rw [drop_cP] | rw [drop_cR]); rotate_left; assumption)); try simp only [go_sem, ↓reduceIte, Nat.reduceAdd, Nat.reduceEqDiff, Nat.reduceLT, Nat.reduceLeDiff, Nat.reduceBEq, Int.reduceEq, Int.reduceLT, Int.reduceLE]))
end Go.Proofs.Ytlhfeiacigmliaa

/- The plain law of payments that settle: by the program as by the document. -/
namespace Go.Proofs.Ytlhfeiacigmliaa
open Go
set_option maxRecDepth 100000

theorem payOk_iff {w : Int} (h0 : 0 ≤ w) (h6 : w ≤ 6) {x : Pay} : payOk w x = true ↔ PayW w.toNat x := by
  have hwr : wr .i64 (w - 1) = w - 1 := wr_in (by omega) (by omega)
  simp only [payOk, pair, woman, hwr, Bool.and_eq_true, within_iff, Bool.not_eq_true', decide_eq_false_iff_not]
  constructor
  · rintro ⟨⟨⟨a1, a2⟩, ⟨b1, b2⟩, b3⟩, c1, c2⟩
    exact ⟨x.fr.toNat, x.to.toNat, by omega, by omega, by omega, by simp; omega, by simp; omega, c1, c2⟩
  · rintro ⟨f, t, hf, ht, hne, e1, e2, c1, c2⟩
    rw [e1, e2]
    simp only [Int.ofNat_eq_natCast, Int.ofNat_inj]
    exact ⟨⟨⟨by omega, by omega⟩, ⟨by omega, by omega⟩, hne⟩, c1, c2⟩
theorem setUp_plain {w : Nat} : ∀ {P : List Pay} {n : Int} {j : Nat} (B : Int), (∀ x ∈ P, PayW w x) → -B ≤ n → n ≤ B → B + 240 * (P.length : Int) ≤ 1000000000 → setUp (Int.ofNat j) n P = n + paysD P j
  | [], n, j, B, _, _, _, _ => by simp [setUp, paysD]
  | x :: P, n, j, B, h, h1, h2, h3 => by
    obtain ⟨f, t, hf, ht, hne, e1, e2, c1, c2⟩ := h x (by simp)
    simp only [List.length_cons, Int.natCast_add, Int.natCast_one] at h3
    rw [setUp, paysD]
    unfold payD
    rw [e1, e2]
    simp only [Int.ofNat.injEq, fold_add, fold_sub]
    have go : ∀ m : Int, m = n + ((if f = j then x.oz else 0) - (if t = j then x.oz else 0)) → setUp (Int.ofNat j) m P = n + ((if f = j then x.oz else 0) - (if t = j then x.oz else 0) + paysD P j) := by
      intro m hm
      have hb : -(B + 240) ≤ m ∧ m ≤ B + 240 := by
        rw [hm]
        split <;> split <;> omega
      rw [setUp_plain (B + 240) (fun y hy => h y (by simp [hy])) hb.1 hb.2 (by omega), hm]; omega
    apply go
    by_cases hfj : f = j
    · have htj : ¬ t = j := by omega
      simp only [hfj, htj, if_true, if_false]
      rw [wr_in (by omega) (by omega)]; omega
    · by_cases htj : t = j
      · simp only [hfj, htj, if_true, if_false]
        rw [wr_in (by omega) (by omega)]; omega
      · simp only [hfj, htj, if_false]; omega
theorem paysD_far {w : Nat} : ∀ {P : List Pay}, (∀ x ∈ P, PayW w x) → ∀ j, w ≤ j → paysD P j = 0
  | [], _, _, _ => rfl
  | x :: P, h, j, hj => by
    obtain ⟨f, t, hf, ht, hne, e1, e2, _⟩ := h x (by simp)
    rw [paysD, paysD_far (fun y hy => h y (by simp [hy])) j hj]
    unfold payD
    rw [e1, e2]
    simp only [Int.ofNat_eq_natCast, Int.ofNat_inj]
    rw [if_neg (by omega), if_neg (by omega)]; rfl
theorem eq6_zero (b : Nat → Int) : eq6 b (fun _ => 0) = true ↔ ∀ j, j < 6 → b j = 0 := by
  constructor
  · intro h j hj; exact eq6_fun h j hj
  · intro h
    simp [eq6, h 0 (by omega), h 1 (by omega), h 2 (by omega), h 3 (by omega), h 4 (by omega), h 5 (by omega)]
section
variable {S : Slate} {L : List Int} (hc : checkSlate S = 0) (ha : areOz S.es L = true) {P : List Pay} (hP : P.length ≤ 1000) (hW : ∀ x ∈ P, PayW S.women.toNat x)
include hc ha hP hW
theorem settles_iff : settlesR S L P = true ↔ ∀ j, owV S.es L j + paysD P j = 0 := by
  have h240 := ow240 hc ha
  unfold settlesR
  rw [List.all_eq_true]
  have hz : ∀ j, zeroAt S.es L P j = decide (owV S.es L j + paysD P j = 0) := by
    intro j
    unfold zeroAt
    change decide (setUp (Int.ofNat j) (owV S.es L j) P = 0) = _
    have := h240 j
    rw [setUp_plain 240 hW this.1 this.2 (by omega)]
  constructor
  · intro h j
    rcases Nat.lt_or_ge j S.women.toNat with hj | hj
    · have := h j (by rw [List.mem_range'_1]; omega)
      rw [hz, decide_eq_true_eq] at this; exact this
    · rw [ow_far hc ha j hj, paysD_far hW j hj]; rfl
  · intro h j _
    rw [hz, decide_eq_true_eq]; exact h j
theorem prove_eq (many : Int) : proveS S L P many = (decide (Int.ofNat (lenOf P) ≤ many) && settlesR S L P) := by
  obtain ⟨hE, ho, _⟩ := play_facts hc ha
  have hG := good_of_check hc
  have h240 := ow240 hc ha
  have hA : allB (payOk S.women) P = true := by
    unfold allB
    rw [List.all_eq_true]
    exact fun x hx => (payOk_iff hG.w0 hG.w6).2 (hW x hx)
  unfold proveS
  rw [hE, ho, hA]
  simp only [decide_true, Bool.true_and]
  congr 1
  rw [Bool.eq_iff_iff, eq6_zero, settles_iff hc ha hP hW]
  have hs : ∀ j, setUp (Int.ofNat j) (owV S.es L j) P = owV S.es L j + paysD P j := fun j => by
    have := h240 j
    exact setUp_plain 240 hW this.1 this.2 (by omega)
  simp only [hs]
  constructor
  · intro h j
    rcases Nat.lt_or_ge j 6 with hj | hj
    · exact h j hj
    · have := hG.w6
      rw [ow_far hc ha j (by omega), paysD_far hW j (by omega)]; rfl
  · intro h j _; exact h j
end
theorem settle_len {S : Slate} {L : List Int} (hc : checkSlate S = 0) (ha : areOz S.es L = true) : (settleP S L).length ≤ 6 := by
  obtain ⟨_, _, _, p4⟩ := settle_facts hc ha
  have := (pc_facts _ (openN_lt (owV S.es L))).1
  omega
end Go.Proofs.Ytlhfeiacigmliaa

/- The wash-house's soap: what the functions compute: payments and sayings by words. -/
namespace Go.Proofs.Ytlhfeiacigmliaa
open Go
set_option maxRecDepth 10000

end Go.Proofs.Ytlhfeiacigmliaa

/- The wash-house's soap: what the functions compute: copies of lists in the heap or with rights, and sayings by words. -/
namespace Go.Proofs.Ytlhfeiacigmliaa
open Go
set_option maxRecDepth 10000

@[go_sem] theorem op_appendHs (H : Han) (fr : List AVal) (s : St) (x y : AOpd) (sz bytes : Nat) : evalOp H (.appendHs sz bytes x y) fr s = appendHsA sz bytes (x.eval fr) (y.eval fr) s := (rfl)
theorem appHs_at {α : Type} {f : α → List AVal} {sz : Nat} (hf : ∀ a, (f a).length = sz) (bytes : Nat) (N : Nat) (O : List AObj) (p : Nat) (q : Nat → Nat) (l : List α) (h0 : l.length ≠ 0) (h : l.length * bytes ≤ 140737488355328) (h' : l.length ≤ 140737488355328) :
    appendHsA sz bytes (.vsl [] 0 .full) (.vsl (cellsOf f l) (lenOf l) .no) ⟨N, O, p, q⟩ = some (.hsl N 0 (lenOf l) none, ⟨na N 1, .cells (cellsOf f l) :: O, p, q⟩) := by
  have he : elemsA ⟨N, O, p, q⟩ sz (.vsl (cellsOf f l) l.length .no) = some (l.length, cellsOf f l) := by simp [elemsA, cells_length hf]
  unfold appendHsA lenOf
  rw [he]
  simp [h0, h, h', na, St.push]
theorem appHs_nil (sz bytes : Nat) (s : St) :
    appendHsA sz bytes (.vsl [] 0 .full) (.vsl [] 0 .no) s = some (.vsl [] 0 .full, s) := by
  simp [appendHsA, elemsA]
theorem k31v2 (L : List Int) (h0 : L.length ≠ 0) (hl : L.length < 1000000) (N : Nat) (O : List AObj) (p : Nat) (q : Nat → Nat) : lim tbl (.call 8223 [sl cI L]) ⟨N, O, p, q⟩ = some (.ret, [.hsl N 0 (lenOf L) none], ⟨na N 1, .cells (cellsOf cI L) :: O, p, q⟩) := by
  have h1 := appHs_at (f := cI) (sz := 1) (fun _ => rfl) 8 N O p q L h0 (by omega) (by omega)
  rw [lim_call tbl_31v2]
  (try simp only [go_sem, ↓reduceIte, Nat.reduceAdd, Nat.reduceEqDiff, Nat.reduceLT, Nat.reduceLeDiff, Nat.reduceBEq, Int.reduceEq, Int.reduceLT, Int.reduceLE]); (repeat ((first | rw [h1] | (rw [lt_yes]; rotate_left; (first | omega | (simp [lenOf, app]; omega) | (simp only [lenOf]; omega))) | (rw [lt_no]; rotate_left; (first | omega | (simp [lenOf, app]; omega) | (simp only [lenOf]; omega))) | (rw [idxA_at]; rotate_left; (first | omega | (simp [lenOf, app]; omega) | (simp only [lenOf]; omega))) | (rw [wr_up]; rotate_left; (first | omega | (simp [lenOf, app]; omega) | (simp only [lenOf]; omega))) | ((first | rw [drop_cI] | rw [drop_cE] | rw [drop_cS] | rw [drop_cP] | rw [drop_cR]); rotate_left; assumption)); try simp only [go_sem, ↓reduceIte, Nat.reduceAdd, Nat.reduceEqDiff, Nat.reduceLT, Nat.reduceLeDiff, Nat.reduceBEq, Int.reduceEq, Int.reduceLT, Int.reduceLE]))
theorem k31v2n (s : St) : lim tbl (.call 8223 [sl cI []]) s = some (.ret, [.vsl [] 0 .full], s) := by
  have h1 := appHs_nil 1 8 s
  rw [lim_call tbl_31v2]
  obtain ⟨N, O, p, q⟩ := s
  (try simp only [go_sem, ↓reduceIte, Nat.reduceAdd, Nat.reduceEqDiff, Nat.reduceLT, Nat.reduceLeDiff, Nat.reduceBEq, Int.reduceEq, Int.reduceLT, Int.reduceLE]); (repeat ((first | rw [h1] | (rw [lt_yes]; rotate_left; (first | omega | (simp [lenOf, app]; omega) | (simp only [lenOf]; omega))) | (rw [lt_no]; rotate_left; (first | omega | (simp [lenOf, app]; omega) | (simp only [lenOf]; omega))) | (rw [idxA_at]; rotate_left; (first | omega | (simp [lenOf, app]; omega) | (simp only [lenOf]; omega))) | (rw [wr_up]; rotate_left; (first | omega | (simp [lenOf, app]; omega) | (simp only [lenOf]; omega))) | ((first | rw [drop_cI] | rw [drop_cE] | rw [drop_cS] | rw [drop_cP] | rw [drop_cR]); rotate_left; assumption)); try simp only [go_sem, ↓reduceIte, Nat.reduceAdd, Nat.reduceEqDiff, Nat.reduceLT, Nat.reduceLeDiff, Nat.reduceBEq, Int.reduceEq, Int.reduceLT, Int.reduceLE]))
end Go.Proofs.Ytlhfeiacigmliaa

/- From the evaluator to the rows: arguments beside a slate. -/
namespace Go.Proofs.Ytlhfeiacigmliaa
open Go Go.ChangeShapes Go.RowKit
set_option maxRecDepth 100000
section
variable {H : Type} {enc : TypeId × Value → H} {w : World} {base : Nat}
theorem rel_int {P : Program} {t : TypeId} {kd : IntKind} (hu : P.underlying t = some (.int kd)) {v : Value} {d : DataW H} {p : List MemPlace} (hok : Value.okWide P w .any base t v) (h : DataW.Trod enc P w 0 (fun _ => true) true t v d p) : ∃ n : Int, v = .int kd n ∧ (Lit.int kd n).wf = true := by
  obtain ⟨fuel, h⟩ := h
  unfold Value.okWide at hok
  rw [hu] at hok
  cases fuel with
  | zero => simp [DataW.trod] at h
  | succ fuel =>
    unfold DataW.trod at h
    rw [hu] at h
    cases v with
    | int k n =>
      simp only [Value.cells] at h
      split at h
      · rename_i hc
        obtain ⟨rfl, hw⟩ := hc
        exact ⟨n, rfl, hw⟩
      · cases h
    | agg cs =>
      exfalso
      unfold Cell.okWide at hok
      rw [hu] at hok
      unfold Cell.ok at hok
      rw [hu] at hok
      exact hok
    | _ => simp only [Value.cells] at h; cases h
theorem rel_u16 {v : Value} {d : DataW H} {p : List MemPlace} (hok : Value.okWide Try.prog w .any base 69 v) (h : DataW.Trod enc Try.prog w 0 (fun _ => true) true 69 v d p) : ∃ m : Nat, m < 65536 ∧ VRel (rho0 w) (.int .u16 (Int.ofNat m)) v := by
  obtain ⟨n, rfl, hw⟩ := rel_int Try.underlying69 hok h
  simp only [Lit.wf, Bool.and_eq_true, decide_eq_true_eq, show IntKind.min .u16 = 0 from rfl, show IntKind.max .u16 = 65535 from rfl] at hw
  obtain ⟨m, rfl⟩ : ∃ m : Nat, n = Int.ofNat m := ⟨n.toNat, by simp; omega⟩
  exact ⟨m, by simp at hw; omega, rfl⟩
end
end Go.Proofs.Ytlhfeiacigmliaa
