/- The law SoapTruth answers true for every slate, number and words: in each truth what each woman is owed is within its bounds; a woman who owes always, or never, does so; the number of the fewest payments is within Fewest; sayings that are right with some ounces need not be left out. -/
import Derived.Test.YtlhfeiacigmliaaPartJ
set_option linter.all false
namespace Go.Proofs.Ytlhfeiacigmliaa
open Go Go.ChangeShapes Go.RowKit
set_option maxRecDepth 100000
set_option maxHeartbeats 4000000

theorem l16_0 (n : Nat) (es : List Ent) (ss : List Say) (R : List Rng) (V A : List Int) (hn : n ≤ 6)
    (h : ∀ i, i < n → ∃ lo hi v a, R[i]? = some ⟨lo, hi⟩ ∧ V[i]? = some v ∧ A[i]? = some a ∧ lo ≤ a ∧ a ≤ hi ∧ (v = 1 ∧ a < 0 ∨ v = 2 ∧ 0 ≤ a ∨ v = 3)) (s : St) : ∀ (k i : Nat), i + k = n →
    lim tbl (.loop a16_l0 201 ⟨[3, 9, 11, 13, 23], [], [6]⟩ [.vref [i64 (Int.ofNat n), sl cE es, sl cS ss], sl cR R, sl cI V, sl cI A, i64 (Int.ofNat i)]) s = some (.exit 0, [], s) := by
  intro k
  induction k with
  | zero =>
    intro i hi
    rw [lim_loop]
    obtain ⟨N, O, p, q⟩ := s
    (try simp only [go_sem, ↓reduceIte, Nat.reduceAdd, Nat.reduceEqDiff, Nat.reduceLT, Nat.reduceLeDiff, Nat.reduceBEq, Int.reduceEq, Int.reduceLT, Int.reduceLE]); (repeat ((first | (rw [lt_yes]; rotate_left; (first | omega | (simp [lenOf, app]; omega) | (simp only [lenOf]; omega))) | (rw [lt_no]; rotate_left; (first | omega | (simp [lenOf, app]; omega) | (simp only [lenOf]; omega))) | (rw [idxA_at]; rotate_left; (first | omega | (simp [lenOf, app]; omega) | (simp only [lenOf]; omega))) | (rw [wr_up]; rotate_left; (first | omega | (simp [lenOf, app]; omega) | (simp only [lenOf]; omega))) | ((first | rw [drop_cI] | rw [drop_cE] | rw [drop_cS] | rw [drop_cP] | rw [drop_cR]); rotate_left; assumption)); try simp only [go_sem, ↓reduceIte, Nat.reduceAdd, Nat.reduceEqDiff, Nat.reduceLT, Nat.reduceLeDiff, Nat.reduceBEq, Int.reduceEq, Int.reduceLT, Int.reduceLE]))
  | succ k ih =>
    intro i hi
    have hlt : i < n := by omega
    have h' := ih (i + 1) (by omega)
    obtain ⟨lo, hi', v, a, r1, r2, r3, b1, b2, b3⟩ := h i hlt
    have d1 := drop_cR r1
    have d2 := drop_cI r2
    have d3 := drop_cI r3
    have g1 : i < lenOf R := (List.getElem?_eq_some_iff.1 r1).1
    have g2 : i < lenOf V := (List.getElem?_eq_some_iff.1 r2).1
    have g3 : i < lenOf A := (List.getElem?_eq_some_iff.1 r3).1
    have w1 : within a lo hi' = true := within_iff.2 ⟨b1, b2⟩
    have w2 : within v 1 3 = true := within_iff.2 (by omega)
    generalize hR : some (_, _, _) = Z at h' ⊢
    rw [lim_loop]
    obtain ⟨N, O, p, q⟩ := s
    rcases b3 with ⟨c1, c2⟩ | ⟨c1, c2⟩ | c1
    · subst c1
      have c3 : ¬ 0 ≤ a := by omega
      (try simp only [go_sem, ↓reduceIte, Nat.reduceAdd, Nat.reduceEqDiff, Nat.reduceLT, Nat.reduceLeDiff, Nat.reduceBEq, Int.reduceEq, Int.reduceLT, Int.reduceLE]); (repeat ((first | rw [d1] | rw [d2] | rw [d3] | rw [w1] | rw [w2] | rw [eq_y rfl] | rw [le_n c3] | (rw [lt_yes]; rotate_left; (first | omega | (simp [lenOf, app]; omega) | (simp only [lenOf]; omega))) | (rw [lt_no]; rotate_left; (first | omega | (simp [lenOf, app]; omega) | (simp only [lenOf]; omega))) | (rw [idxA_at]; rotate_left; (first | omega | (simp [lenOf, app]; omega) | (simp only [lenOf]; omega))) | (rw [wr_up]; rotate_left; (first | omega | (simp [lenOf, app]; omega) | (simp only [lenOf]; omega))) | ((first | rw [drop_cI] | rw [drop_cE] | rw [drop_cS] | rw [drop_cP] | rw [drop_cR]); rotate_left; assumption)); try simp only [go_sem, ↓reduceIte, Nat.reduceAdd, Nat.reduceEqDiff, Nat.reduceLT, Nat.reduceLeDiff, Nat.reduceBEq, Int.reduceEq, Int.reduceLT, Int.reduceLE]))
      exact h'
    · subst c1
      have c3 : ¬ a < 0 := by omega
      (try simp only [go_sem, ↓reduceIte, Nat.reduceAdd, Nat.reduceEqDiff, Nat.reduceLT, Nat.reduceLeDiff, Nat.reduceBEq, Int.reduceEq, Int.reduceLT, Int.reduceLE]); (repeat ((first | rw [d1] | rw [d2] | rw [d3] | rw [w1] | rw [w2] | rw [lt_n c3] | (rw [lt_yes]; rotate_left; (first | omega | (simp [lenOf, app]; omega) | (simp only [lenOf]; omega))) | (rw [lt_no]; rotate_left; (first | omega | (simp [lenOf, app]; omega) | (simp only [lenOf]; omega))) | (rw [idxA_at]; rotate_left; (first | omega | (simp [lenOf, app]; omega) | (simp only [lenOf]; omega))) | (rw [wr_up]; rotate_left; (first | omega | (simp [lenOf, app]; omega) | (simp only [lenOf]; omega))) | ((first | rw [drop_cI] | rw [drop_cE] | rw [drop_cS] | rw [drop_cP] | rw [drop_cR]); rotate_left; assumption)); try simp only [go_sem, ↓reduceIte, Nat.reduceAdd, Nat.reduceEqDiff, Nat.reduceLT, Nat.reduceLeDiff, Nat.reduceBEq, Int.reduceEq, Int.reduceLT, Int.reduceLE]))
      exact h'
    · subst c1
      (try simp only [go_sem, ↓reduceIte, Nat.reduceAdd, Nat.reduceEqDiff, Nat.reduceLT, Nat.reduceLeDiff, Nat.reduceBEq, Int.reduceEq, Int.reduceLT, Int.reduceLE]); (repeat ((first | rw [d1] | rw [d2] | rw [d3] | rw [w1] | rw [w2] | (rw [lt_yes]; rotate_left; (first | omega | (simp [lenOf, app]; omega) | (simp only [lenOf]; omega))) | (rw [lt_no]; rotate_left; (first | omega | (simp [lenOf, app]; omega) | (simp only [lenOf]; omega))) | (rw [idxA_at]; rotate_left; (first | omega | (simp [lenOf, app]; omega) | (simp only [lenOf]; omega))) | (rw [wr_up]; rotate_left; (first | omega | (simp [lenOf, app]; omega) | (simp only [lenOf]; omega))) | ((first | rw [drop_cI] | rw [drop_cE] | rw [drop_cS] | rw [drop_cP] | rw [drop_cR]); rotate_left; assumption)); try simp only [go_sem, ↓reduceIte, Nat.reduceAdd, Nat.reduceEqDiff, Nat.reduceLT, Nat.reduceLeDiff, Nat.reduceBEq, Int.reduceEq, Int.reduceLT, Int.reduceLE]))
      exact h'
theorem k16 (S : Slate) (t : Nat) (ht : t < 65536) (W : List Nat) (hW : ∀ w ∈ W, w < 65536) (s : St) : lim tbl (.call 16 [vSl S, .int .u16 (Int.ofNat t), sl cW W]) s = some (.ret, [.bool true], s) := by
  have h46 := fun s => k46 S s
  have h22 := fun s => k22 s
  rw [lim_call tbl_16]
  cases hT : readyS S with
  | false =>
    rw [hT] at h46
    obtain ⟨w, es, ss⟩ := S
    obtain ⟨N, O, p, q⟩ := s
    (try simp only [go_sem, ↓reduceIte, Nat.reduceAdd, Nat.reduceEqDiff, Nat.reduceLT, Nat.reduceLeDiff, Nat.reduceBEq, Int.reduceEq, Int.reduceLT, Int.reduceLE]); (repeat ((first | simp only [h46] | simp only [h22] | (rw [lt_yes]; rotate_left; (first | omega | (simp [lenOf, app]; omega) | (simp only [lenOf]; omega))) | (rw [lt_no]; rotate_left; (first | omega | (simp [lenOf, app]; omega) | (simp only [lenOf]; omega))) | (rw [idxA_at]; rotate_left; (first | omega | (simp [lenOf, app]; omega) | (simp only [lenOf]; omega))) | (rw [wr_up]; rotate_left; (first | omega | (simp [lenOf, app]; omega) | (simp only [lenOf]; omega))) | ((first | rw [drop_cI] | rw [drop_cE] | rw [drop_cS] | rw [drop_cP] | rw [drop_cR]); rotate_left; assumption)); try simp only [go_sem, ↓reduceIte, Nat.reduceAdd, Nat.reduceEqDiff, Nat.reduceLT, Nat.reduceLeDiff, Nat.reduceBEq, Int.reduceEq, Int.reduceLT, Int.reduceLE]))
  | true =>
    rw [hT] at h46
    obtain ⟨hc, hT1⟩ := ready_inv hT
    obtain ⟨hl1, hl2⟩ := thin_len hT1
    have hG := good_of_check hc
    have hw0 := hG.w0
    have hw6 := hG.w6
    obtain ⟨hm, hM⟩ := many_of_check hc
    have hpos := prodN_pos hG.oe
    have ha := nth_areOz hG.oe (bmod t (prodN S.es))
    have hLl := areOz_len ha
    have h240 := ow240 hc ha
    obtain ⟨n, hnw⟩ : ∃ n : Nat, S.women = Int.ofNat n := ⟨S.women.toNat, by simp; omega⟩
    have hn6 : n ≤ 6 := by rw [hnw] at hw6; change (n : Int) ≤ 6 at hw6; omega
    have hnt : S.women.toNat = n := by rw [hnw]; rfl
    have h65 := fun s => k65 n hn6 S.es S.ss t ht W hW (by omega) hG.oe (prodN S.es) hpos (by omega) hM hLl h240 s
    rw [← hnw] at h65
    change ∀ s, lim tbl (.call 65 [vSl S, .int .u16 (Int.ofNat t), sl cW W]) s = some (.ret, [.tup [vSl ⟨S.women, S.es, saidL S (nthRef S.es (bmod t (prodN S.es))) W⟩, sl cI (nthRef S.es (bmod t (prodN S.es)))]], s) at h65
    generalize nthRef S.es (bmod t (prodN S.es)) = L at h65 ha hLl h240
    obtain ⟨hcX, hRX⟩ := said_ok hc ha W
    have hsl := saidL_len S L W
    generalize saidL S L W = A at h65 hcX hRX hsl
    obtain ⟨X, hX⟩ : ∃ X : Slate, X = ⟨S.women, S.es, A⟩ := ⟨_, rfl⟩
    have hXw : X.women = Int.ofNat n := by rw [hX]; exact hnw
    have hXe : X.es = S.es := by rw [hX]
    have hXs : X.ss = A := by rw [hX]
    rw [← hX] at h65 hcX hRX
    have haX : areOz X.es L = true := by rw [hXe]; exact ha
    have gX := good_of_check hcX
    have h6e : X.es.length ≤ 6 := gX.e6
    have h5s : X.ss.length ≤ 5 := gX.s5
    obtain ⟨t1, t2, t3, t4⟩ := truth_leave hcX haX hRX
    obtain ⟨u1, u2, u3, u4⟩ := truth_bounds hcX haX hRX
    obtain ⟨hE, ho, hp⟩ := play_facts hcX haX
    obtain ⟨p1, p2, p3, p4⟩ := settle_facts hcX haX
    have h24 := fun s => k24 X (by omega) (by omega) s
    have h31 := fun s => k31 L (by omega) s
    have h23 := fun s => k23 X s
    have h25 := fun s => k25 X s
    have h52 := fun s => k52 X L (fun _ => gX) s
    have h53 := fun s => k53 X L s
    have h38 := fun s => k38 X s
    have h41 := fun s => k41 X s
    have h40 := fun s => k40 X s
    have h62 := fun s => k62 X L (fun _ => gX) s
    rw [t3] at h23 h25 h38
    rw [hE, hp] at h52
    rw [hE] at h53
    rw [hcX, t1] at h41
    rw [t2] at h40
    rw [t4] at h62
    have hnX : X.women.toNat = n := by rw [hXw]; rfl
    rw [hnX] at u1 u2 h52
    have hin : within (Int.ofNat (lenOf (settleP X L))) (fewestP X).1 (fewestP X).2 = true := by
      rw [within_iff, show Int.ofNat (lenOf (settleP X L)) = payR X L from p3]
      exact ⟨u3, u4⟩
    have hq1 : lenOf (boundsL X) = n := u1
    have hq2 : lenOf ((boundsL X).map owesF) = n := by unfold lenOf; rw [List.length_map]; exact u1
    have hq3 : lenOf (l6 (owV X.es L) n) = n := l6_len _ _
    have hl0 := l16_0 n S.es S.ss (boundsL X) ((boundsL X).map owesF) (l6 (owV X.es L) n) hn6 (fun i hi => by
      obtain ⟨lo, hi', e1, e2, e3⟩ := u2 i hi
      refine ⟨lo, hi', owesF ⟨lo, hi'⟩, owV X.es L i, e1, by rw [List.getElem?_map, e1]; rfl, by simp [l6, hi], e2, e3, ?_⟩
      unfold owesF
      by_cases c1 : hi' < 0
      · left; exact ⟨if_pos c1, by omega⟩
      · by_cases c2 : 0 ≤ lo
        · right; left; exact ⟨by rw [if_neg c1, if_pos c2], by omega⟩
        · right; right; rw [if_neg c1, if_neg c2])
    have hlp := fun s => hl0 s n 0 (by omega)
    clear hl0
    rw [ofNat_0] at hlp
    generalize (boundsL X).map owesF = V at h25 hq2 hlp
    generalize boundsL X = R at h23 hq1 hlp
    generalize l6 (owV X.es L) n = Z at h52 hq3 hlp
    generalize settleP X L = P at h53 hin
    generalize fewestP X = F at h38 hin
    obtain ⟨f1, f2⟩ := F
    simp only at h38 hin
    generalize firstA X = fA at h40
    obtain ⟨w, es, ss⟩ := S
    simp only at hnw hlp
    subst hnw
    obtain ⟨wx, ex, sx⟩ := X
    simp only at hXw
    subst hXw
    obtain ⟨N, O, p, q⟩ := s
    (try simp only [go_sem, ↓reduceIte, Nat.reduceAdd, Nat.reduceEqDiff, Nat.reduceLT, Nat.reduceLeDiff, Nat.reduceBEq, Int.reduceEq, Int.reduceLT, Int.reduceLE]); (repeat ((first | simp only [h46] | simp only [h65] | simp only [h24] | simp only [h31] | simp only [h23] | simp only [h25] | simp only [h52] | simp only [h53] | simp only [h38] | simp only [h41] | simp only [h40] | rw [hin] | simp only [hq1] | simp only [hq2] | simp only [hq3] | rw [eq_y rfl] | simp only [h62] | simp only [hlp] | simp only [h22] | (rw [lt_yes]; rotate_left; (first | omega | (simp [lenOf, app]; omega) | (simp only [lenOf]; omega))) | (rw [lt_no]; rotate_left; (first | omega | (simp [lenOf, app]; omega) | (simp only [lenOf]; omega))) | (rw [idxA_at]; rotate_left; (first | omega | (simp [lenOf, app]; omega) | (simp only [lenOf]; omega))) | (rw [wr_up]; rotate_left; (first | omega | (simp [lenOf, app]; omega) | (simp only [lenOf]; omega))) | ((first | rw [drop_cI] | rw [drop_cE] | rw [drop_cS] | rw [drop_cP] | rw [drop_cR]); rotate_left; assumption)); try simp only [go_sem, ↓reduceIte, Nat.reduceAdd, Nat.reduceEqDiff, Nat.reduceLT, Nat.reduceLeDiff, Nat.reduceBEq, Int.reduceEq, Int.reduceLT, Int.reduceLE]))
theorem Try_own : ownKnob Try.prog.godebug = none := by kernel_rfl
theorem truth_lifted (os : Os) (started : os.Started) (H : Type) (enc : TypeId × Value → H) :
    ReturnsInHanded {} Try.checked os 16 .any (Ytlhfeiacigmliaa.Rows.soapTruthSpec.pre6 enc Try.prog Try.f16 Ytlhfeiacigmliaa.Rows.soapTruthRow.domain false) (Ytlhfeiacigmliaa.Rows.soapTruthSpec.post enc Try.prog Try.f16 false true false false) := by
  refine returnsInHanded_of_change (C := Try.checked) Try_own started (by kernel_rfl) Try.func16
    (ChangeSpec.witness6 (enc := enc) (C := Try.checked) false ⟨#[], #[.agg #[.int .i64 0, .slice none 0 0, .slice none 0 0], .int .u16 0, .slice none 0 0], []⟩ 8 (by kernel_rfl) (by kernel_rfl) (by kernel_rfl) (by kernel_rfl)) ?_
  intro W base args ds gs before hval0 hW hcnd _
  have hval : ∀ (j : Nat) t v, Try.f16.params[j]? = some t → args[j]? = some v → Value.okWide Try.prog W .any base t v := hval0
  have hW' := hW
  obtain ⟨p, q, hA0, hV, rfl, hfz, hnd⟩ := hW
  have hA : DataW.TrodAll enc Try.prog W 0 (fun _ => true) true Try.f16.params.toList args.toList ds p := hA0
  rw [Try.params16] at hA hval
  obtain ⟨v0, v1, v2, d0, d1, d2, p0, p1, p2, rfl, rfl, hp, h0, h1, h2⟩ := trodAll_three hA
  obtain ⟨rfl, rfl⟩ := trodVars_none hV
  obtain ⟨x0, r0⟩ := rel_slate (hval 0 25 v0 rfl rfl) h0
  obtain ⟨x1, l1, r1⟩ := rel_u16 (hval 1 69 v1 rfl rfl) h1
  obtain ⟨x2, l2, r2⟩ := rel_words (hval 2 97 v2 rfl rfl) h2
  refine (sound_lim tbl_ok (k16 x0 x1 l1 x2 l2 St.empty) (sim0 Try.prog W) (args' := #[v0, v1, v2]) ⟨v0, [v1, v2], rfl, r0, ⟨v1, [v2], rfl, r1, ⟨v2, [], rfl, r2, rfl⟩⟩⟩).mono fun e W' he => ?_
  obtain ⟨v', ρ', he, hv, _, hF⟩ := he
  subst he
  have hv : v' = .bool true := hv
  subst hv
  exact ⟨_, rfl, shut_true hW' rfl rfl (by rw [Try.params16]; intro t ht; simp at ht; rcases ht with rfl | rfl | rfl <;> exact ⟨by kernel_rfl, of_decide_eq_true (by kernel_rfl)⟩) rfl rfl rfl hF⟩
theorem truth_holds : Ytlhfeiacigmliaa.Rows.SoapTruthSaid :=
  OpenClaim.holds_of_wide 16 Try.f16 rfl rfl rfl rfl rfl rfl rfl ⟨rfl, rfl, rfl, rfl, rfl⟩ rfl rfl rfl rfl rfl (by kernel_rfl) Try.func16 (by kernel_rfl)
    (of_decide_eq_true (by kernel_rfl)) (by unfold Func.isWrapper; first | (rw [if_pos (by decide +kernel)]; kernel_rfl) | (rw [if_neg (by decide +kernel)]; exact ⟨rfl, rfl⟩))
    (fun os started H enc _ => truth_lifted os started H enc)
#print axioms truth_holds
end Go.Proofs.Ytlhfeiacigmliaa
