/- The law SoapLeft answers true for every slate and list: without the smallest set there is a truth; without any shorter list, nor one that is as long and lexicographically before it, there is none. -/
import Derived.Test.YtlhfeiacigmliaaPartJ
set_option linter.all false
namespace Go.Proofs.Ytlhfeiacigmliaa
open Go Go.ChangeShapes Go.RowKit
set_option maxRecDepth 100000

/-! the bits of a list of numbers -/
def orPw : Nat → List Nat → Nat
  | b, [] => b
  | b, x :: l => orPw (bor b (pw x)) l
def incB (n : Nat) : List Nat → Bool
  | [] => true
  | x :: l => decide (x < n) && (match l with | [] => true | y :: _ => decide (x < y)) && incB n l
theorem set_facts : ∀ n, n ≤ 5 → ∀ b, b < pw n → bitsOf b = ints (nats (bitsOf b)) ∧ orPw 0 (nats (bitsOf b)) = b ∧ incB n (nats (bitsOf b)) = true := by
  have h : ((List.range 6).all fun n => (List.range (pw n)).all fun b => (bitsOf b == ints (nats (bitsOf b))) && (orPw 0 (nats (bitsOf b)) == b) && incB n (nats (bitsOf b))) = true := by kernel_rfl
  intro n hn b hb
  rw [List.all_eq_true] at h
  have h1 := h n (by simp; omega)
  rw [List.all_eq_true] at h1
  have h2 := h1 b (by simpa using hb)
  simp only [Bool.and_eq_true, beq_iff_eq] at h2
  exact ⟨h2.1.1, h2.1.2, h2.2⟩
theorem inc_lt {n : Nat} : ∀ {l : List Nat} {i x : Nat}, incB n l = true → l[i]? = some x → x < n
  | [], _, _, _, h => by simp at h
  | y :: l, 0, x, h, hx => by
    simp only [incB, Bool.and_eq_true, decide_eq_true_eq] at h
    simp only [List.getElem?_cons_zero, Option.some.injEq] at hx
    subst hx
    exact h.1.1
  | y :: l, i + 1, x, h, hx => by
    simp only [incB, Bool.and_eq_true, decide_eq_true_eq] at h
    exact inc_lt h.2 (by simpa using hx)
theorem inc_up {n : Nat} : ∀ {l : List Nat} {i x y : Nat}, incB n l = true → l[i]? = some x → l[i + 1]? = some y → x < y
  | [], _, _, _, _, h, _ => by simp at h
  | z :: l, 0, x, y, h, hx, hy => by
    simp only [incB, Bool.and_eq_true, decide_eq_true_eq] at h
    simp only [List.getElem?_cons_zero, Option.some.injEq] at hx
    subst hx
    cases l with
    | nil => simp at hy
    | cons w l =>
      simp only [Nat.zero_add, List.getElem?_cons_succ, List.getElem?_cons_zero, Option.some.injEq] at hy
      subst hy
      simpa using h.1.2
  | z :: l, i + 1, x, y, h, hx, hy => by
    simp only [incB, Bool.and_eq_true, decide_eq_true_eq] at h
    exact inc_up h.2 (by simpa using hx) (by simpa using hy)
theorem l14 (w : Int) (es : List Ent) (ss : List Say) (hl : ss.length ≤ 7) (ns : List Nat) (hns : incB ss.length ns = true) (hnl : ns.length < 1000) (t1 : AVal) (s : St) : ∀ (k i b : Nat), i + k = ns.length → b < 128 →
    lim tbl (.loop a14_l0 113 ⟨[1, 2, 5, 7, 8], [1, 2, 5, 7], [4]⟩ [t1, .vref [i64 w, sl cE es, sl cS ss], sl cI (ints ns), i64 (Int.ofNat b), i64 (Int.ofNat i)]) s
     = some (.exit 0, [t1, .vref [i64 w, sl cE es, sl cS ss], sl cI (ints ns), i64 (Int.ofNat (orPw b (ns.drop i)))], s) := by
  intro k
  have hil : lenOf (ints ns) = ns.length := by simp [lenOf, ints]
  induction k with
  | zero =>
    intro i b hi hb
    rw [List.drop_eq_nil_of_le (by omega), orPw, lim_loop]
    obtain ⟨N, O, p, q⟩ := s
    (try simp only [go_sem, ↓reduceIte, Nat.reduceAdd, Nat.reduceEqDiff, Nat.reduceLT, Nat.reduceLeDiff, Nat.reduceBEq, Int.reduceEq, Int.reduceLT, Int.reduceLE]); (repeat ((first | (rw [lt_yes]; rotate_left; (first | omega | (simp [lenOf, app]; omega) | (simp only [lenOf]; omega))) | (rw [lt_no]; rotate_left; (first | omega | (simp [lenOf, app]; omega) | (simp only [lenOf]; omega))) | (rw [idxA_at]; rotate_left; (first | omega | (simp [lenOf, app]; omega) | (simp only [lenOf]; omega))) | (rw [wr_up]; rotate_left; (first | omega | (simp [lenOf, app]; omega) | (simp only [lenOf]; omega))) | ((first | rw [drop_cI] | rw [drop_cE] | rw [drop_cS] | rw [drop_cP] | rw [drop_cR]); rotate_left; assumption)); try simp only [go_sem, ↓reduceIte, Nat.reduceAdd, Nat.reduceEqDiff, Nat.reduceLT, Nat.reduceLeDiff, Nat.reduceBEq, Int.reduceEq, Int.reduceLT, Int.reduceLE]))
  | succ k ih =>
    intro i b hi hb
    have hlt : i < ns.length := by omega
    obtain ⟨x, hx, hd⟩ := getElem_drop hlt
    have hxi := map_get hx
    have hx7 : x < ss.length := inc_lt hns hx
    have hp : pw x < 128 := Nat.pow_lt_pow_right (a := 2) (m := x) (n := 7) (by omega) (by omega)
    have hb' : bor b (pw x) < 128 := Nat.or_lt_two_pow (n := 7) hb hp
    have hs1 : shlI 1 (Int.ofNat x) = some (i64 (Int.ofNat (pw x))) := shl1_at (by omega)
    have hor := bits_or (a := b) (b := pw x) (by omega) (by omega)
    have hw : within (Int.ofNat x) 0 (wr .i64 (Int.sub (Int.ofNat (lenOf ss)) 1)) = true := by
      rw [fold_sub, wr_in (by simp [lenOf]; omega) (by simp [lenOf]; omega), within_iff]
      exact ⟨by simp, by simp [lenOf]; omega⟩
    have h' := ih (i + 1) (bor b (pw x)) (by omega) hb'
    rw [hd, orPw, lim_loop]
    generalize hR : some (_, _, _) = R at h' ⊢
    by_cases h0 : i = 0
    · have hn0 : ¬ (0 : Int) < Int.ofNat i := by simp; omega
      obtain ⟨N, O, p, q⟩ := s
      (try simp only [go_sem, ↓reduceIte, Nat.reduceAdd, Nat.reduceEqDiff, Nat.reduceLT, Nat.reduceLeDiff, Nat.reduceBEq, Int.reduceEq, Int.reduceLT, Int.reduceLE]); (repeat ((first | rw [hw] | rw [lt_n hn0] | (rw [wr_u]; rotate_left; (omega)) | rw [hs1] | rw [hor] | (rw [lt_yes]; rotate_left; (first | omega | (simp [lenOf, app]; omega) | (simp only [lenOf]; omega))) | (rw [lt_no]; rotate_left; (first | omega | (simp [lenOf, app]; omega) | (simp only [lenOf]; omega))) | (rw [idxA_at]; rotate_left; (first | omega | (simp [lenOf, app]; omega) | (simp only [lenOf]; omega))) | (rw [wr_up]; rotate_left; (first | omega | (simp [lenOf, app]; omega) | (simp only [lenOf]; omega))) | ((first | rw [drop_cI] | rw [drop_cE] | rw [drop_cS] | rw [drop_cP] | rw [drop_cR]); rotate_left; assumption)); try simp only [go_sem, ↓reduceIte, Nat.reduceAdd, Nat.reduceEqDiff, Nat.reduceLT, Nat.reduceLeDiff, Nat.reduceBEq, Int.reduceEq, Int.reduceLT, Int.reduceLE]))
      exact h'
    · obtain ⟨i, rfl⟩ : ∃ i', i = i' + 1 := ⟨i - 1, by omega⟩
      obtain ⟨y, hy, _⟩ := getElem_drop (l := ns) (i := i) (by omega)
      have hyi := map_get hy
      have hlt' : ¬ Int.ofNat x ≤ Int.ofNat y := by
        have := inc_up hns hy hx
        simp; omega
      have hpos : (0 : Int) < Int.ofNat (i + 1) := by show (0 : Int) < ((i + 1 : Nat) : Int); omega
      have hdn : wr .i64 (Int.sub (Int.ofNat (i + 1)) 1) = Int.ofNat i := by
        rw [fold_sub, wr_in] <;> simp <;> omega
      obtain ⟨N, O, p, q⟩ := s
      (try simp only [go_sem, ↓reduceIte, Nat.reduceAdd, Nat.reduceEqDiff, Nat.reduceLT, Nat.reduceLeDiff, Nat.reduceBEq, Int.reduceEq, Int.reduceLT, Int.reduceLE]); (repeat ((first | rw [hw] | rw [lt_y hpos] | rw [hdn] | rw [le_n hlt'] | (rw [wr_u]; rotate_left; (omega)) | rw [hs1] | rw [hor] | (rw [lt_yes]; rotate_left; (first | omega | (simp [lenOf, app]; omega) | (simp only [lenOf]; omega))) | (rw [lt_no]; rotate_left; (first | omega | (simp [lenOf, app]; omega) | (simp only [lenOf]; omega))) | (rw [idxA_at]; rotate_left; (first | omega | (simp [lenOf, app]; omega) | (simp only [lenOf]; omega))) | (rw [wr_up]; rotate_left; (first | omega | (simp [lenOf, app]; omega) | (simp only [lenOf]; omega))) | ((first | rw [drop_cI] | rw [drop_cE] | rw [drop_cS] | rw [drop_cP] | rw [drop_cR]); rotate_left; assumption)); try simp only [go_sem, ↓reduceIte, Nat.reduceAdd, Nat.reduceEqDiff, Nat.reduceLT, Nat.reduceLeDiff, Nat.reduceBEq, Int.reduceEq, Int.reduceLT, Int.reduceLE]))
      exact h'
theorem band_le {a b n : Nat} (h : b < n) : band a b < n := Nat.lt_of_le_of_lt Nat.and_le_right h
theorem left_law {S : Slate} (hc : checkSlate S = 0) : ∃ b, b < pw S.ss.length ∧ leaveL S = bitsOf b ∧ can (allN S) (bsub (fullN (lenOf S.ss)) b) = true ∧
    ∀ m, m < pw S.ss.length → can (allN S) (bsub (fullN (lenOf S.ss)) m) = true → shorterL (bitsOf m) (leaveL S) = false := by
  have hG := good_of_check hc
  have hp := pw_pos S.ss.length
  have hF : fullN (lenOf S.ss) + 1 = pw S.ss.length := by unfold fullN lenOf; omega
  rw [leave_eq hc]
  unfold leaveRef
  obtain ⟨m1, _, m3⟩ := leave_min (allN S) (fullN (lenOf S.ss)) (fullN (lenOf S.ss) + 1) 0 (bitsOf (fullN (lenOf S.ss)))
  rw [hF] at m1 m3 ⊢
  have hmin : ∀ m, m < pw S.ss.length → can (allN S) (bsub (fullN (lenOf S.ss)) m) = true → shorterL (bitsOf m) (leaveUp (allN S) (fullN (lenOf S.ss)) (pw S.ss.length) 0 (bitsOf (fullN (lenOf S.ss)))) = false :=
    fun m hm hcan => m3 m (by omega) (by omega) hcan
  rcases m1 with h | ⟨b', _, h2, h3, h4⟩
  · refine ⟨fullN (lenOf S.ss), by omega, h, ?_, hmin⟩
    have : bsub (fullN (lenOf S.ss)) (fullN (lenOf S.ss)) = fullN 0 := by
      apply Nat.eq_of_testBit_eq
      intro i
      rw [bsub_test, fullN_test, fullN_test]
      simp
    rw [this]; exact can_zero hG
  · exact ⟨b', by omega, h3, h4, hmin⟩
theorem k14 (S : Slate) (t : Nat) (ht : t < 256) (s : St) : lim tbl (.call 14 [vSl S, .int .u8 (Int.ofNat t)]) s = some (.ret, [.bool true], s) := by
  have h46 := fun s => k46 S s
  have h22 := fun s => k22 s
  rw [lim_call tbl_14]
  cases hT : readyS S with
  | false =>
    rw [hT] at h46
    obtain ⟨w, es, ss⟩ := S
    obtain ⟨N, O, p, q⟩ := s
    (try simp only [go_sem, ↓reduceIte, Nat.reduceAdd, Nat.reduceEqDiff, Nat.reduceLT, Nat.reduceLeDiff, Nat.reduceBEq, Int.reduceEq, Int.reduceLT, Int.reduceLE]); (repeat ((first | simp only [h46] | simp only [h22] | (rw [lt_yes]; rotate_left; (first | omega | (simp [lenOf, app]; omega) | (simp only [lenOf]; omega))) | (rw [lt_no]; rotate_left; (first | omega | (simp [lenOf, app]; omega) | (simp only [lenOf]; omega))) | (rw [idxA_at]; rotate_left; (first | omega | (simp [lenOf, app]; omega) | (simp only [lenOf]; omega))) | (rw [wr_up]; rotate_left; (first | omega | (simp [lenOf, app]; omega) | (simp only [lenOf]; omega))) | ((first | rw [drop_cI] | rw [drop_cE] | rw [drop_cS] | rw [drop_cP] | rw [drop_cR]); rotate_left; assumption)); try simp only [go_sem, ↓reduceIte, Nat.reduceAdd, Nat.reduceEqDiff, Nat.reduceLT, Nat.reduceLeDiff, Nat.reduceBEq, Int.reduceEq, Int.reduceLT, Int.reduceLE]))
  | true =>
    rw [hT] at h46
    obtain ⟨hc, hT1⟩ := ready_inv hT
    obtain ⟨hl1, hl2⟩ := thin_len hT1
    have hG := good_of_check hc
    have h5 := hG.s5
    have h24 := fun s => k24 S (by omega) (by omega) s
    have h41 := fun s => k41 S s
    rw [hc] at h41
    obtain ⟨b, hb, hbl, hbc, hmin⟩ := left_law hc
    have hF : fullN (lenOf S.ss) + 1 = pw S.ss.length := by have := pw_pos S.ss.length; unfold fullN lenOf; omega
    have hpl : pw S.ss.length ≤ 32 := Nat.pow_le_pow_right (n := 2) (j := 5) (by omega) h5
    obtain ⟨f1, f2, f3⟩ := set_facts S.ss.length h5 b hb
    have hnl : (nats (bitsOf b)).length < 1000 := by unfold nats; rw [List.length_map]; have := bitsOf_len b; omega
    have h59 := fun s => k59 S (by omega) s
    have hband := bits_and (a := t) (b := fullN (lenOf S.ss)) (by omega) (by omega)
    have hn : band t (fullN (lenOf S.ss)) < pw S.ss.length := band_le (by omega)
    have hwt : wr .i64 (Int.ofNat t) = Int.ofNat t := wr_nat (by omega)
    have hm1 := hmin _ hn
    generalize hnn : band t (fullN (lenOf S.ss)) = n at hband hn hm1
    have hsb := bits_sub (a := fullN (lenOf S.ss)) (b := b) (by omega) (by omega)
    have hsn := bits_sub (a := fullN (lenOf S.ss)) (b := n) (by omega) (by omega)
    have hlt : ∀ m i, (bsub (fullN (lenOf S.ss)) m).testBit i = true → i < S.ss.length := by
      intro m i h
      rw [bsub_test, Bool.and_eq_true] at h
      exact full_lt S i h.1
    have a1 := askedErr_some hc _ (hlt b)
    have a2 := askedErr_some hc _ (hlt n)
    rw [hbc, if_pos rfl] at a1
    have h58 := fun s => k58 S (by omega) (bsub (fullN (lenOf S.ss)) b) s
    have h58' := fun s => k58 S (by omega) (bsub (fullN (lenOf S.ss)) n) s
    have g24 := fun s => k24 (someS S (bsub (fullN (lenOf S.ss)) b)) (by show S.es.length < 1000000; omega) (by have := pickS_len (bsub (fullN (lenOf S.ss)) b) S.ss 0; show (pickS _ 0 S.ss).length < 1000000; omega) s
    have g24' := fun s => k24 (someS S (bsub (fullN (lenOf S.ss)) n)) (by show S.es.length < 1000000; omega) (by have := pickS_len (bsub (fullN (lenOf S.ss)) n) S.ss 0; show (pickS _ 0 S.ss).length < 1000000; omega) s
    have g23 := fun s => k23 (someS S (bsub (fullN (lenOf S.ss)) b)) s
    have g23' := fun s => k23 (someS S (bsub (fullN (lenOf S.ss)) n)) s
    rw [a1] at g23
    have h61 := fun s => k61 n (Nat.lt_of_lt_of_le hn (Nat.le_trans hpl (Nat.pow_le_pow_right (n := 2) (i := 5) (by omega) (by omega)))) s
    have h60 := fun s => k60 (bitsOf n) (leaveL S) (by have := bitsOf_len n; omega) (by rw [hbl]; have := bitsOf_len b; omega) s
    rw [hbl, f1] at h41 h60
    have l0 := fun s => l14 S.women S.es S.ss (by omega) (nats (bitsOf b)) f3 hnl (.int .u8 (Int.ofNat t)) s (nats (bitsOf b)).length 0 0 (by omega) (by omega)
    rw [List.drop_zero, f2, ofNat_0] at l0
    generalize boundsL (someS S (bsub (fullN (lenOf S.ss)) b)) = R1 at g23
    generalize boundsL (someS S (bsub (fullN (lenOf S.ss)) n)) = R2 at g23'
    rw [hbl, f1] at hm1
    generalize ints (nats (bitsOf b)) = V at h41 h60 l0 hm1
    generalize bitsOf n = M at h61 h60 hm1
    generalize someS S (bsub (fullN (lenOf S.ss)) b) = S1 at h58 g24 g23 a1
    generalize someS S (bsub (fullN (lenOf S.ss)) n) = S2 at h58' g24' g23' a2
    generalize bsub (fullN (lenOf S.ss)) b = B1 at hsb h58
    generalize bsub (fullN (lenOf S.ss)) n = B2 at hsn h58' a2 hm1
    generalize fullN (lenOf S.ss) = F at h59 hband hsb hsn
    obtain ⟨w1, es1, ss1⟩ := S1
    obtain ⟨w2, es2, ss2⟩ := S2
    cases hcn : can (allN S) B2 with
    | true =>
      rw [hcn, if_pos rfl] at a2
      rw [a2] at g23'
      rw [hm1 hcn] at h60
      obtain ⟨w, es, ss⟩ := S
      obtain ⟨N, O, p, q⟩ := s
      (try simp only [go_sem, ↓reduceIte, Nat.reduceAdd, Nat.reduceEqDiff, Nat.reduceLT, Nat.reduceLeDiff, Nat.reduceBEq, Int.reduceEq, Int.reduceLT, Int.reduceLE]); (repeat ((first | simp only [h46] | simp only [h24] | simp only [h41] | simp only [l0] | rw [hwt] | simp only [h59] | rw [hband] | rw [hsb] | rw [hsn] | simp only [h58] | simp only [h58'] | simp only [g24] | simp only [g24'] | simp only [g23] | simp only [g23'] | simp only [h61] | simp only [h60] | simp only [h22] | (rw [lt_yes]; rotate_left; (first | omega | (simp [lenOf, app]; omega) | (simp only [lenOf]; omega))) | (rw [lt_no]; rotate_left; (first | omega | (simp [lenOf, app]; omega) | (simp only [lenOf]; omega))) | (rw [idxA_at]; rotate_left; (first | omega | (simp [lenOf, app]; omega) | (simp only [lenOf]; omega))) | (rw [wr_up]; rotate_left; (first | omega | (simp [lenOf, app]; omega) | (simp only [lenOf]; omega))) | ((first | rw [drop_cI] | rw [drop_cE] | rw [drop_cS] | rw [drop_cP] | rw [drop_cR]); rotate_left; assumption)); try simp only [go_sem, ↓reduceIte, Nat.reduceAdd, Nat.reduceEqDiff, Nat.reduceLT, Nat.reduceLeDiff, Nat.reduceBEq, Int.reduceEq, Int.reduceLT, Int.reduceLE]))
    | false =>
      rw [hcn] at a2
      simp only [Bool.false_eq_true, if_false] at a2
      rw [a2] at g23'
      obtain ⟨w, es, ss⟩ := S
      obtain ⟨N, O, p, q⟩ := s
      (try simp only [go_sem, ↓reduceIte, Nat.reduceAdd, Nat.reduceEqDiff, Nat.reduceLT, Nat.reduceLeDiff, Nat.reduceBEq, Int.reduceEq, Int.reduceLT, Int.reduceLE]); (repeat ((first | simp only [h46] | simp only [h24] | simp only [h41] | simp only [l0] | rw [hwt] | simp only [h59] | rw [hband] | rw [hsb] | rw [hsn] | simp only [h58] | simp only [h58'] | simp only [g24] | simp only [g24'] | simp only [g23] | simp only [g23'] | simp only [h61] | simp only [h60] | simp only [h22] | (rw [lt_yes]; rotate_left; (first | omega | (simp [lenOf, app]; omega) | (simp only [lenOf]; omega))) | (rw [lt_no]; rotate_left; (first | omega | (simp [lenOf, app]; omega) | (simp only [lenOf]; omega))) | (rw [idxA_at]; rotate_left; (first | omega | (simp [lenOf, app]; omega) | (simp only [lenOf]; omega))) | (rw [wr_up]; rotate_left; (first | omega | (simp [lenOf, app]; omega) | (simp only [lenOf]; omega))) | ((first | rw [drop_cI] | rw [drop_cE] | rw [drop_cS] | rw [drop_cP] | rw [drop_cR]); rotate_left; assumption)); try simp only [go_sem, ↓reduceIte, Nat.reduceAdd, Nat.reduceEqDiff, Nat.reduceLT, Nat.reduceLeDiff, Nat.reduceBEq, Int.reduceEq, Int.reduceLT, Int.reduceLE]))
theorem Try_own : ownKnob Try.prog.godebug = none := by kernel_rfl
theorem left_lifted (os : Os) (started : os.Started) (H : Type) (enc : TypeId × Value → H) :
    ReturnsInHanded {} Try.checked os 14 .any (Ytlhfeiacigmliaa.Rows.soapLeftSpec.pre6 enc Try.prog Try.f14 Ytlhfeiacigmliaa.Rows.soapLeftRow.domain false) (Ytlhfeiacigmliaa.Rows.soapLeftSpec.post enc Try.prog Try.f14 false true false false) := by
  refine returnsInHanded_of_change (C := Try.checked) Try_own started (by kernel_rfl) Try.func14
    (ChangeSpec.witness6 (enc := enc) (C := Try.checked) false ⟨#[], #[.agg #[.int .i64 0, .slice none 0 0, .slice none 0 0], .int .u8 0], []⟩ 8 (by kernel_rfl) (by kernel_rfl) (by kernel_rfl) (by kernel_rfl)) ?_
  intro W base args ds gs before hval0 hW hcnd _
  have hval : ∀ (j : Nat) t v, Try.f14.params[j]? = some t → args[j]? = some v → Value.okWide Try.prog W .any base t v := hval0
  have hW' := hW
  obtain ⟨p, q, hA0, hV, rfl, hfz, hnd⟩ := hW
  have hA : DataW.TrodAll enc Try.prog W 0 (fun _ => true) true Try.f14.params.toList args.toList ds p := hA0
  rw [Try.params14] at hA hval
  obtain ⟨v0, v1, d0, d1, p0, p1, rfl, rfl, hp, h0, h1⟩ := trodAll_two hA
  obtain ⟨rfl, rfl⟩ := trodVars_none hV
  obtain ⟨x0, r0⟩ := rel_slate (hval 0 25 v0 rfl rfl) h0
  obtain ⟨x1, l1, r1⟩ := rel_u8 (hval 1 5 v1 rfl rfl) h1
  refine (sound_lim tbl_ok (k14 x0 x1 l1 St.empty) (sim0 Try.prog W) (args' := #[v0, v1]) ⟨v0, [v1], rfl, r0, ⟨v1, [], rfl, r1, rfl⟩⟩).mono fun e W' he => ?_
  obtain ⟨v', ρ', he, hv, _, hF⟩ := he
  subst he
  have hv : v' = .bool true := hv
  subst hv
  exact ⟨_, rfl, shut_true hW' rfl rfl (by rw [Try.params14]; intro t ht; simp at ht; rcases ht with rfl | rfl <;> exact ⟨by kernel_rfl, of_decide_eq_true (by kernel_rfl)⟩) rfl rfl rfl hF⟩
theorem left_holds : Ytlhfeiacigmliaa.Rows.SoapLeftSaid :=
  OpenClaim.holds_of_wide 14 Try.f14 rfl rfl rfl rfl rfl rfl rfl ⟨rfl, rfl, rfl, rfl, rfl⟩ rfl rfl rfl rfl rfl (by kernel_rfl) Try.func14 (by kernel_rfl)
    (of_decide_eq_true (by kernel_rfl)) (by unfold Func.isWrapper; first | (rw [if_pos (by decide +kernel)]; kernel_rfl) | (rw [if_neg (by decide +kernel)]; exact ⟨rfl, rfl⟩))
    (fun os started H enc _ => left_lifted os started H enc)
#print axioms left_holds
end Go.Proofs.Ytlhfeiacigmliaa
