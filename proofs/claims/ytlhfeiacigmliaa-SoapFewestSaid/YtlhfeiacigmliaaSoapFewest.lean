/- The law SoapFewest answers true for every slate: the bounds of the number of the fewest payments are as the document says, or the error is. -/
import Derived.Test.YtlhfeiacigmliaaPartJ
set_option linter.all false
namespace Go.Proofs.Ytlhfeiacigmliaa
open Go Go.ChangeShapes Go.RowKit
set_option maxRecDepth 100000

theorem k5 (S : Slate) (s : St) : lim tbl (.call 5 [vSl S]) s = some (.ret, [.bool true], s) := by
  have h21 := fun s => k21 S s
  have h22 := fun s => k22 s
  rw [lim_call tbl_5]
  cases hT : thin S with
  | false =>
    rw [hT] at h21
    obtain ⟨w, es, ss⟩ := S
    obtain ⟨N, O, p, q⟩ := s
    (try simp only [go_sem, ↓reduceIte, Nat.reduceAdd, Nat.reduceEqDiff, Nat.reduceLT, Nat.reduceLeDiff, Nat.reduceBEq, Int.reduceEq, Int.reduceLT, Int.reduceLE]); (repeat ((first | simp only [h21] | simp only [h22] | (rw [lt_yes]; rotate_left; (first | omega | (simp [lenOf, app]; omega) | (simp only [lenOf]; omega))) | (rw [lt_no]; rotate_left; (first | omega | (simp [lenOf, app]; omega) | (simp only [lenOf]; omega))) | (rw [idxA_at]; rotate_left; (first | omega | (simp [lenOf, app]; omega) | (simp only [lenOf]; omega))) | (rw [wr_up]; rotate_left; (first | omega | (simp [lenOf, app]; omega) | (simp only [lenOf]; omega))) | ((first | rw [drop_cI] | rw [drop_cE] | rw [drop_cS] | rw [drop_cP] | rw [drop_cR]); rotate_left; assumption)); try simp only [go_sem, ↓reduceIte, Nat.reduceAdd, Nat.reduceEqDiff, Nat.reduceLT, Nat.reduceLeDiff, Nat.reduceBEq, Int.reduceEq, Int.reduceLT, Int.reduceLE]))
  | true =>
    rw [hT] at h21
    obtain ⟨hl1, hl2⟩ := thin_len hT
    have h24 := fun s => k24 S (by omega) (by omega) s
    have h38 := fun s => k38 S s
    have h26 := fun s => k26 S s
    rw [← err_eq] at h26
    by_cases he : askedErr S = 0
    · have hc : checkSlate S = 0 := by
        unfold askedErr at he
        by_cases hc : checkSlate S = 0
        · exact hc
        · rw [if_pos hc] at he; exact absurd he hc
      have hz : asked S ≠ [] := by
        intro h
        simp [askedErr, hc, h] at he
      have hG := good_of_check hc
      obtain ⟨hm, hM⟩ := many_of_check hc
      have hTs : sureL S = truths S (prodN S.es) := by simp [sureL, hc]
      have hfs : fewestP S = fewestR S (truths S (prodN S.es)) := by unfold fewestP; rw [if_pos he, fewest_same hc hz]
      have hTl : (truths S (prodN S.es)).length < 1000000 := by have := upto_len (f := truthF S) (fun n => by unfold truthF; split <;> simp) 0 (prodN S.es); unfold truths; omega
      have hTL : ∀ L ∈ truths S (prodN S.es), L.length = S.es.length := fun L hL => areOz_len ((mem_truths hG L).1 hL).1
      have h39 := fun s => k39 S hG.w0 hG.w6 (truths S (prodN S.es)) hTl (by omega) hTL s
      rw [he, hfs] at h38
      rw [he, hTs] at h26
      generalize fewestR S (truths S (prodN S.es)) = F at h38 h39
      generalize truths S (prodN S.es) = T at h26 h39
      obtain ⟨lo, hi⟩ := F
      obtain ⟨w, es, ss⟩ := S
      obtain ⟨N, O, p, q⟩ := s
      (try simp only [go_sem, ↓reduceIte, Nat.reduceAdd, Nat.reduceEqDiff, Nat.reduceLT, Nat.reduceLeDiff, Nat.reduceBEq, Int.reduceEq, Int.reduceLT, Int.reduceLE]); (repeat ((first | simp only [h21] | simp only [h24] | simp only [h38] | simp only [h26] | simp only [h39] | rw [eq_y rfl] | simp only [h22] | (rw [lt_yes]; rotate_left; (first | omega | (simp [lenOf, app]; omega) | (simp only [lenOf]; omega))) | (rw [lt_no]; rotate_left; (first | omega | (simp [lenOf, app]; omega) | (simp only [lenOf]; omega))) | (rw [idxA_at]; rotate_left; (first | omega | (simp [lenOf, app]; omega) | (simp only [lenOf]; omega))) | (rw [wr_up]; rotate_left; (first | omega | (simp [lenOf, app]; omega) | (simp only [lenOf]; omega))) | ((first | rw [drop_cI] | rw [drop_cE] | rw [drop_cS] | rw [drop_cP] | rw [drop_cR]); rotate_left; assumption)); try simp only [go_sem, ↓reduceIte, Nat.reduceAdd, Nat.reduceEqDiff, Nat.reduceLT, Nat.reduceLeDiff, Nat.reduceBEq, Int.reduceEq, Int.reduceLT, Int.reduceLE]))
    · have hfs : fewestP S = (0, 0) := by unfold fewestP; rw [if_neg he]
      rw [hfs] at h38
      generalize askedErr S = e at h38 h26 he
      generalize sureL S = T at h26
      obtain ⟨w, es, ss⟩ := S
      obtain ⟨N, O, p, q⟩ := s
      (try simp only [go_sem, ↓reduceIte, Nat.reduceAdd, Nat.reduceEqDiff, Nat.reduceLT, Nat.reduceLeDiff, Nat.reduceBEq, Int.reduceEq, Int.reduceLT, Int.reduceLE]); (repeat ((first | simp only [h21] | simp only [h24] | simp only [h38] | simp only [h26] | rw [eq_n he] | rw [eq_y rfl] | simp only [h22] | (rw [lt_yes]; rotate_left; (first | omega | (simp [lenOf, app]; omega) | (simp only [lenOf]; omega))) | (rw [lt_no]; rotate_left; (first | omega | (simp [lenOf, app]; omega) | (simp only [lenOf]; omega))) | (rw [idxA_at]; rotate_left; (first | omega | (simp [lenOf, app]; omega) | (simp only [lenOf]; omega))) | (rw [wr_up]; rotate_left; (first | omega | (simp [lenOf, app]; omega) | (simp only [lenOf]; omega))) | ((first | rw [drop_cI] | rw [drop_cE] | rw [drop_cS] | rw [drop_cP] | rw [drop_cR]); rotate_left; assumption)); try simp only [go_sem, ↓reduceIte, Nat.reduceAdd, Nat.reduceEqDiff, Nat.reduceLT, Nat.reduceLeDiff, Nat.reduceBEq, Int.reduceEq, Int.reduceLT, Int.reduceLE]))
theorem Try_own : ownKnob Try.prog.godebug = none := by kernel_rfl
theorem fewest_lifted (os : Os) (started : os.Started) (H : Type) (enc : TypeId × Value → H) :
    ReturnsInHanded {} Try.checked os 5 .any (Ytlhfeiacigmliaa.Rows.soapFewestSpec.pre6 enc Try.prog Try.f5 Ytlhfeiacigmliaa.Rows.soapFewestRow.domain false) (Ytlhfeiacigmliaa.Rows.soapFewestSpec.post enc Try.prog Try.f5 false true false false) := by
  refine returnsInHanded_of_change (C := Try.checked) Try_own started (by kernel_rfl) Try.func5
    (ChangeSpec.witness6 (enc := enc) (C := Try.checked) false ⟨#[], #[.agg #[.int .i64 0, .slice none 0 0, .slice none 0 0]], []⟩ 8 (by kernel_rfl) (by kernel_rfl) (by kernel_rfl) (by kernel_rfl)) ?_
  intro W base args ds gs before hval0 hW hcnd _
  have hval : ∀ (j : Nat) t v, Try.f5.params[j]? = some t → args[j]? = some v → Value.okWide Try.prog W .any base t v := hval0
  have hW' := hW
  obtain ⟨p, q, hA0, hV, rfl, hfz, hnd⟩ := hW
  have hA : DataW.TrodAll enc Try.prog W 0 (fun _ => true) true Try.f5.params.toList args.toList ds p := hA0
  rw [Try.params5] at hA hval
  obtain ⟨v0, d0, rfl, rfl, h0⟩ := trodAll_one hA
  obtain ⟨rfl, rfl⟩ := trodVars_none hV
  obtain ⟨x0, r0⟩ := rel_slate (hval 0 25 v0 rfl rfl) h0
  refine (sound_lim tbl_ok (k5 x0 St.empty) (sim0 Try.prog W) (args' := #[v0]) ⟨v0, [], rfl, r0, rfl⟩).mono fun e W' he => ?_
  obtain ⟨v', ρ', he, hv, _, hF⟩ := he
  subst he
  have hv : v' = .bool true := hv
  subst hv
  exact ⟨_, rfl, shut_true hW' rfl rfl (by rw [Try.params5]; intro t ht; simp at ht; subst ht; exact ⟨by kernel_rfl, of_decide_eq_true (by kernel_rfl)⟩) rfl rfl rfl hF⟩
theorem fewest_holds : Ytlhfeiacigmliaa.Rows.SoapFewestSaid :=
  OpenClaim.holds_of_wide 5 Try.f5 rfl rfl rfl rfl rfl rfl rfl ⟨rfl, rfl, rfl, rfl, rfl⟩ rfl rfl rfl rfl rfl (by kernel_rfl) Try.func5 (by kernel_rfl)
    (of_decide_eq_true (by kernel_rfl)) (by unfold Func.isWrapper; first | (rw [if_pos (by decide +kernel)]; kernel_rfl) | (rw [if_neg (by decide +kernel)]; exact ⟨rfl, rfl⟩))
    (fun os started H enc _ => fewest_lifted os started H enc)
#print axioms fewest_holds
end Go.Proofs.Ytlhfeiacigmliaa
