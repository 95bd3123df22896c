/- The law SoapFirst answers true for every slate: the slate with the sayings before the first wrong one has a truth, with this one it has none; if there is no wrong one, the slate has a truth. -/
import Derived.Test.YtlhfeiacigmliaaPartJ
set_option linter.all false
namespace Go.Proofs.Ytlhfeiacigmliaa
open Go Go.ChangeShapes Go.RowKit
set_option maxRecDepth 100000

theorem k13 (S : Slate) (s : St) : lim tbl (.call 13 [vSl S]) s = some (.ret, [.bool true], s) := by
  have h46 := fun s => k46 S s
  have h22 := fun s => k22 s
  rw [lim_call tbl_13]
  cases hT : readyS S with
  | false =>
    rw [hT] at h46
    obtain ⟨w, es, ss⟩ := S
    obtain ⟨N, O, p, q⟩ := s
    (try simp only [go_sem, ↓reduceIte, Nat.reduceAdd, Nat.reduceEqDiff, Nat.reduceLT, Nat.reduceLeDiff, Nat.reduceBEq, Int.reduceEq, Int.reduceLT, Int.reduceLE]); (repeat ((first | simp only [h46] | simp only [h22] | (rw [lt_yes]; rotate_left; (first | omega | (simp [lenOf, app]; omega) | (simp only [lenOf]; omega))) | (rw [lt_no]; rotate_left; (first | omega | (simp [lenOf, app]; omega) | (simp only [lenOf]; omega))) | (rw [idxA_at]; rotate_left; (first | omega | (simp [lenOf, app]; omega) | (simp only [lenOf]; omega))) | (rw [wr_up]; rotate_left; (first | omega | (simp [lenOf, app]; omega) | (simp only [lenOf]; omega))) | ((first | rw [drop_cI] | rw [drop_cE] | rw [drop_cS] | rw [drop_cP] | rw [drop_cR]); rotate_left; assumption)); try simp only [go_sem, ↓reduceIte, Nat.reduceAdd, Nat.reduceEqDiff, Nat.reduceLT, Nat.reduceLeDiff, Nat.reduceBEq, Int.reduceEq, Int.reduceLT, Int.reduceLE]))
  | true =>
    rw [hT] at h46
    obtain ⟨hc, hT1⟩ := ready_inv hT
    obtain ⟨hl1, hl2⟩ := thin_len hT1
    have hG := good_of_check hc
    have h24 := fun s => k24 S (by omega) (by omega) s
    have h40 := fun s => k40 S s
    have h23 := fun s => k23 S s
    cases hf : firstPUp S (lenOf S.ss) 0 with
    | none =>
      have f1 : firstA S = 0 := by simp [firstA, hf]
      have f2 : firstE S = 7 := by simp [firstE, hc, hf]
      have ha : askedErr S = 0 := by rw [asked_full hc, firstP_none hG _ 0 (by simp [lenOf]) (can_zero hG) hf, if_pos rfl]
      rw [f1, f2] at h40
      rw [ha] at h23
      generalize boundsL S = R at h23
      obtain ⟨w, es, ss⟩ := S
      obtain ⟨N, O, p, q⟩ := s
      (try simp only [go_sem, ↓reduceIte, Nat.reduceAdd, Nat.reduceEqDiff, Nat.reduceLT, Nat.reduceLeDiff, Nat.reduceBEq, Int.reduceEq, Int.reduceLT, Int.reduceLE]); (repeat ((first | simp only [h46] | simp only [h24] | simp only [h40] | simp only [h23] | simp only [h22] | (rw [lt_yes]; rotate_left; (first | omega | (simp [lenOf, app]; omega) | (simp only [lenOf]; omega))) | (rw [lt_no]; rotate_left; (first | omega | (simp [lenOf, app]; omega) | (simp only [lenOf]; omega))) | (rw [idxA_at]; rotate_left; (first | omega | (simp [lenOf, app]; omega) | (simp only [lenOf]; omega))) | (rw [wr_up]; rotate_left; (first | omega | (simp [lenOf, app]; omega) | (simp only [lenOf]; omega))) | ((first | rw [drop_cI] | rw [drop_cE] | rw [drop_cS] | rw [drop_cP] | rw [drop_cR]); rotate_left; assumption)); try simp only [go_sem, ↓reduceIte, Nat.reduceAdd, Nat.reduceEqDiff, Nat.reduceLT, Nat.reduceLeDiff, Nat.reduceBEq, Int.reduceEq, Int.reduceLT, Int.reduceLE]))
    | some j =>
      have f1 : firstA S = Int.ofNat j := by simp [firstA, hc, hf]
      have f2 : firstE S = 0 := by simp [firstE, hc, hf]
      rw [f1, f2] at h40
      obtain ⟨j1, j2, j3⟩ := firstP_some hG _ 0 j (by simp [lenOf]) (can_zero hG) hf
      have a1 : askedErr (someS S (fullN j)) = 0 := by
        rw [askedErr_some hc _ (fun i hi => by rw [fullN_test, decide_eq_true_eq] at hi; omega), j2, if_pos rfl]
      have a2 : askedErr (someS S (maskN j)) = 11 := by
        rw [askedErr_some hc _ (fun i hi => by rw [maskN_test, decide_eq_true_eq] at hi; omega), j3]; rfl
      have h58 := fun s => k58 S (by omega) (fullN j) s
      have h58' := fun s => k58 S (by omega) (maskN j) s
      have g24 := fun s => k24 (someS S (fullN j)) (by show S.es.length < 1000000; omega) (by have := pickS_len (fullN j) S.ss 0; show (pickS (fullN j) 0 S.ss).length < 1000000; omega) s
      have g24' := fun s => k24 (someS S (maskN j)) (by show S.es.length < 1000000; omega) (by have := pickS_len (maskN j) S.ss 0; show (pickS (maskN j) 0 S.ss).length < 1000000; omega) s
      have g23 := fun s => k23 (someS S (fullN j)) s
      have g23' := fun s => k23 (someS S (maskN j)) s
      rw [a1] at g23
      rw [a2] at g23'
      have hp1 : pw j < 1000000 := by
        unfold pw
        exact Nat.lt_of_le_of_lt (Nat.pow_le_pow_right (n := 2) (i := j) (j := 7) (by omega) (by omega)) (by decide)
      have hp0 := pw_pos j
      have hs1 : shlI 1 (Int.ofNat j) = some (i64 (Int.ofNat (pw j))) := shl1_at (by omega)
      have hs2 : shlI 2 (Int.ofNat j) = some (i64 (Int.ofNat (2 * pw j))) := shl2_at (by omega)
      have hd1 : wr .i64 (Int.sub (Int.ofNat (pw j)) 1) = Int.ofNat (fullN j) := by
        rw [fold_sub, wr_in] <;> simp [fullN] <;> omega
      have hd2 : wr .i64 (Int.sub (Int.ofNat (2 * pw j)) 1) = Int.ofNat (maskN j) := by
        rw [fold_sub, wr_in] <;> simp [maskN] <;> omega
      have hw : within (Int.ofNat j) 0 (wr .i64 (Int.sub (Int.ofNat (lenOf S.ss)) 1)) = true := by
        rw [fold_sub, wr_in (by simp [lenOf]; omega) (by simp [lenOf]; omega), within_iff]
        exact ⟨by simp, by simp [lenOf]; omega⟩
      generalize boundsL (someS S (fullN j)) = R1 at g23
      generalize boundsL (someS S (maskN j)) = R2 at g23'
      generalize someS S (fullN j) = S1 at h58 g24 g23
      generalize someS S (maskN j) = S2 at h58' g24' g23'
      obtain ⟨w1, es1, ss1⟩ := S1
      obtain ⟨w2, es2, ss2⟩ := S2
      obtain ⟨w, es, ss⟩ := S
      obtain ⟨N, O, p, q⟩ := s
      (try simp only [go_sem, ↓reduceIte, Nat.reduceAdd, Nat.reduceEqDiff, Nat.reduceLT, Nat.reduceLeDiff, Nat.reduceBEq, Int.reduceEq, Int.reduceLT, Int.reduceLE]); (repeat ((first | simp only [h46] | simp only [h24] | simp only [h40] | simp only [h23] | rw [hw] | (rw [wr_u]; rotate_left; (omega)) | rw [hs1] | rw [hs2] | rw [hd1] | rw [hd2] | simp only [h58] | simp only [h58'] | simp only [g24] | simp only [g24'] | simp only [g23] | simp only [g23'] | simp only [h22] | (rw [lt_yes]; rotate_left; (first | omega | (simp [lenOf, app]; omega) | (simp only [lenOf]; omega))) | (rw [lt_no]; rotate_left; (first | omega | (simp [lenOf, app]; omega) | (simp only [lenOf]; omega))) | (rw [idxA_at]; rotate_left; (first | omega | (simp [lenOf, app]; omega) | (simp only [lenOf]; omega))) | (rw [wr_up]; rotate_left; (first | omega | (simp [lenOf, app]; omega) | (simp only [lenOf]; omega))) | ((first | rw [drop_cI] | rw [drop_cE] | rw [drop_cS] | rw [drop_cP] | rw [drop_cR]); rotate_left; assumption)); try simp only [go_sem, ↓reduceIte, Nat.reduceAdd, Nat.reduceEqDiff, Nat.reduceLT, Nat.reduceLeDiff, Nat.reduceBEq, Int.reduceEq, Int.reduceLT, Int.reduceLE]))
theorem Try_own : ownKnob Try.prog.godebug = none := by kernel_rfl
theorem first_lifted (os : Os) (started : os.Started) (H : Type) (enc : TypeId × Value → H) :
    ReturnsInHanded {} Try.checked os 13 .any (Ytlhfeiacigmliaa.Rows.soapFirstSpec.pre6 enc Try.prog Try.f13 Ytlhfeiacigmliaa.Rows.soapFirstRow.domain false) (Ytlhfeiacigmliaa.Rows.soapFirstSpec.post enc Try.prog Try.f13 false true false false) := by
  refine returnsInHanded_of_change (C := Try.checked) Try_own started (by kernel_rfl) Try.func13
    (ChangeSpec.witness6 (enc := enc) (C := Try.checked) false ⟨#[], #[.agg #[.int .i64 0, .slice none 0 0, .slice none 0 0]], []⟩ 8 (by kernel_rfl) (by kernel_rfl) (by kernel_rfl) (by kernel_rfl)) ?_
  intro W base args ds gs before hval0 hW hcnd _
  have hval : ∀ (j : Nat) t v, Try.f13.params[j]? = some t → args[j]? = some v → Value.okWide Try.prog W .any base t v := hval0
  have hW' := hW
  obtain ⟨p, q, hA0, hV, rfl, hfz, hnd⟩ := hW
  have hA : DataW.TrodAll enc Try.prog W 0 (fun _ => true) true Try.f13.params.toList args.toList ds p := hA0
  rw [Try.params13] at hA hval
  obtain ⟨v0, d0, rfl, rfl, h0⟩ := trodAll_one hA
  obtain ⟨rfl, rfl⟩ := trodVars_none hV
  obtain ⟨S, hS⟩ := rel_slate (hval 0 25 v0 rfl rfl) h0
  refine (sound_lim tbl_ok (k13 S St.empty) (sim0 Try.prog W) (args' := #[v0]) ⟨v0, [], rfl, hS, rfl⟩).mono fun e W' he => ?_
  obtain ⟨v', ρ', he, hv, _, hF⟩ := he
  subst he
  have hv : v' = .bool true := hv
  subst hv
  exact ⟨_, rfl, shut_true hW' rfl rfl (by rw [Try.params13]; intro t ht; simp at ht; subst ht; exact ⟨by kernel_rfl, of_decide_eq_true (by kernel_rfl)⟩) rfl rfl rfl hF⟩
theorem first_holds : Ytlhfeiacigmliaa.Rows.SoapFirstSaid :=
  OpenClaim.holds_of_wide 13 Try.f13 rfl rfl rfl rfl rfl rfl rfl ⟨rfl, rfl, rfl, rfl, rfl⟩ rfl rfl rfl rfl rfl (by kernel_rfl) Try.func13 (by kernel_rfl)
    (of_decide_eq_true (by kernel_rfl)) (by unfold Func.isWrapper; first | (rw [if_pos (by decide +kernel)]; kernel_rfl) | (rw [if_neg (by decide +kernel)]; exact ⟨rfl, rfl⟩))
    (fun os started H enc _ => first_lifted os started H enc)
#print axioms first_holds
end Go.Proofs.Ytlhfeiacigmliaa
