/- The law SoapLeaves answers true for every slate: the first wrong saying, and the smallest set, are as the document says, or the error is. -/
import Derived.Test.YtlhfeiacigmliaaPartI
import Derived.Test.YtlhfeiacigmliaaPartJ
set_option linter.all false
namespace Go.Proofs.Ytlhfeiacigmliaa
open Go Go.ChangeShapes Go.RowKit
set_option maxRecDepth 100000

theorem allN_lt {S : Slate} (hS : S.ss.length ≤ 5) : ∀ a ∈ allN S, a < 9223372036854775808 := by
  intro a ha
  unfold allN at ha
  rw [List.mem_map] at ha
  obtain ⟨n, _, rfl⟩ := ha
  refine Nat.lt_of_lt_of_le (Nat.lt_pow_two_of_testBit (n := 5) _ fun i hi => ?_) (by omega)
  rw [rightN_test, List.getElem?_eq_none (by omega)]
theorem allN_len (S : Slate) : (allN S).length = prodN S.es := by simp [allN]
theorem k6 (S : Slate) (s : St) : lim tbl (.call 6 [vSl S]) s = some (.ret, [.bool true], s) := by
  have h21 := fun s => k21 S s
  have h22 := fun s => k22 s
  rw [lim_call tbl_6]
  cases hT : thin S with
  | false =>
    rw [hT] at h21
    obtain ⟨w, es, ss⟩ := S
    obtain ⟨N, O, p, q⟩ := s
    (try simp only [go_sem, ↓reduceIte, Nat.reduceAdd, Nat.reduceEqDiff, Nat.reduceLT, Nat.reduceLeDiff, Nat.reduceBEq, Int.reduceEq, Int.reduceLT, Int.reduceLE]); (repeat ((first | simp only [h21] | simp only [h22] | (rw [lt_yes]; rotate_left; (first | omega | (simp [lenOf, app]; omega) | (simp only [lenOf]; omega))) | (rw [lt_no]; rotate_left; (first | omega | (simp [lenOf, app]; omega) | (simp only [lenOf]; omega))) | (rw [idxA_at]; rotate_left; (first | omega | (simp [lenOf, app]; omega) | (simp only [lenOf]; omega))) | (rw [wr_up]; rotate_left; (first | omega | (simp [lenOf, app]; omega) | (simp only [lenOf]; omega))) | ((first | rw [drop_cI] | rw [drop_cE] | rw [drop_cS] | rw [drop_cP] | rw [drop_cR]); rotate_left; assumption)); try simp only [go_sem, ↓reduceIte, Nat.reduceAdd, Nat.reduceEqDiff, Nat.reduceLT, Nat.reduceLeDiff, Nat.reduceBEq, Int.reduceEq, Int.reduceLT, Int.reduceLE]))
  | true =>
    rw [hT] at h21
    obtain ⟨hl1, hl2⟩ := thin_len hT
    have h24 := fun s => k24 S (by omega) (by omega) s
    have h40 := fun s => k40 S s
    have h41 := fun s => k41 S s
    have h32 := fun s => k32 S s
    rw [fault_eq] at h32
    by_cases hc : checkSlate S = 0
    · have hG := good_of_check hc
      obtain ⟨hm, hM⟩ := many_of_check hc
      have h6 := hG.e6
      have h5 := hG.s5
      have h42 := fun s => k42 S (by omega) (by omega) hG.oe (prodN S.es) (by omega) hM s
      rw [allRef_eq] at h42
      have hlt := allN_lt h5
      have hnl := allN_len S
      have h44 := fun s => k44 S (allN S) (by omega) hlt (by omega) s
      have h45 := fun s => k45 S (allN S) (by omega) hlt (by omega) s
      have hle := leave_eq hc
      rw [← hle] at h44
      have hll : (leaveL S).length < 1000000 := by
        have : ∃ b, leaveL S = bitsOf b := by
          rw [hle]
          obtain ⟨m1, _, _⟩ := leave_min (allN S) (fullN (lenOf S.ss)) (fullN (lenOf S.ss) + 1) 0 (bitsOf (fullN (lenOf S.ss)))
          rcases m1 with h | ⟨b', _, _, h3, _⟩
          · exact ⟨_, h⟩
          · exact ⟨_, h3⟩
        obtain ⟨b, hb⟩ := this
        rw [hb]; have := bitsOf_len b; omega
      have h43 := fun s => k43 (leaveL S) (leaveL S) hll s
      have hsame : sameL (leaveL S) (leaveL S) = true := by simp [sameL]
      rw [hsame] at h43
      have hfe : firstRef (allN S) (lenOf S.ss) = (match firstPUp S (lenOf S.ss) 0 with | none => -1 | some j => Int.ofNat j) := first_eq hG _ _ (by simp [lenOf])
      rw [hfe] at h45
      rw [hc] at h32 h41
      have hneg : ((-1 : Int) < 0) := by omega
      cases hf : firstPUp S (lenOf S.ss) 0 with
      | none =>
        have f1 : firstA S = 0 := by simp [firstA, hf]
        have f2 : firstE S = 7 := by simp [firstE, hc, hf]
        rw [f1, f2] at h40
        rw [hf] at h45
        simp only at h45
        generalize leaveL S = V at h41 h43 h44
        generalize allN S = A at h42 h44 h45
        obtain ⟨w, es, ss⟩ := S
        obtain ⟨N, O, p, q⟩ := s
        (try simp only [go_sem, ↓reduceIte, Nat.reduceAdd, Nat.reduceEqDiff, Nat.reduceLT, Nat.reduceLeDiff, Nat.reduceBEq, Int.reduceEq, Int.reduceLT, Int.reduceLE]); (repeat ((first | simp only [h21] | simp only [h24] | simp only [h40] | simp only [h41] | simp only [h32] | simp only [h42] | simp only [h44] | simp only [h43] | simp only [h45] | rw [lt_y hneg] | simp only [h22] | (rw [lt_yes]; rotate_left; (first | omega | (simp [lenOf, app]; omega) | (simp only [lenOf]; omega))) | (rw [lt_no]; rotate_left; (first | omega | (simp [lenOf, app]; omega) | (simp only [lenOf]; omega))) | (rw [idxA_at]; rotate_left; (first | omega | (simp [lenOf, app]; omega) | (simp only [lenOf]; omega))) | (rw [wr_up]; rotate_left; (first | omega | (simp [lenOf, app]; omega) | (simp only [lenOf]; omega))) | ((first | rw [drop_cI] | rw [drop_cE] | rw [drop_cS] | rw [drop_cP] | rw [drop_cR]); rotate_left; assumption)); try simp only [go_sem, ↓reduceIte, Nat.reduceAdd, Nat.reduceEqDiff, Nat.reduceLT, Nat.reduceLeDiff, Nat.reduceBEq, Int.reduceEq, Int.reduceLT, Int.reduceLE]))
      | some j =>
        have f1 : firstA S = Int.ofNat j := by simp [firstA, hc, hf]
        have f2 : firstE S = 0 := by simp [firstE, hc, hf]
        rw [f1, f2] at h40
        rw [hf] at h45
        simp only at h45
        have hj0 : ¬ Int.ofNat j < 0 := by simp
        generalize leaveL S = V at h41 h43 h44
        generalize allN S = A at h42 h44 h45
        obtain ⟨w, es, ss⟩ := S
        obtain ⟨N, O, p, q⟩ := s
        (try simp only [go_sem, ↓reduceIte, Nat.reduceAdd, Nat.reduceEqDiff, Nat.reduceLT, Nat.reduceLeDiff, Nat.reduceBEq, Int.reduceEq, Int.reduceLT, Int.reduceLE]); (repeat ((first | simp only [h21] | simp only [h24] | simp only [h40] | simp only [h41] | simp only [h32] | simp only [h42] | simp only [h44] | simp only [h43] | simp only [h45] | rw [lt_n hj0] | rw [eqN_y rfl] | simp only [h22] | (rw [lt_yes]; rotate_left; (first | omega | (simp [lenOf, app]; omega) | (simp only [lenOf]; omega))) | (rw [lt_no]; rotate_left; (first | omega | (simp [lenOf, app]; omega) | (simp only [lenOf]; omega))) | (rw [idxA_at]; rotate_left; (first | omega | (simp [lenOf, app]; omega) | (simp only [lenOf]; omega))) | (rw [wr_up]; rotate_left; (first | omega | (simp [lenOf, app]; omega) | (simp only [lenOf]; omega))) | ((first | rw [drop_cI] | rw [drop_cE] | rw [drop_cS] | rw [drop_cP] | rw [drop_cR]); rotate_left; assumption)); try simp only [go_sem, ↓reduceIte, Nat.reduceAdd, Nat.reduceEqDiff, Nat.reduceLT, Nat.reduceLeDiff, Nat.reduceBEq, Int.reduceEq, Int.reduceLT, Int.reduceLE]))
    · have f1 : firstA S = 0 := by simp [firstA, hc]
      have f2 : firstE S = checkSlate S := by simp [firstE, hc]
      have f3 : leaveL S = [] := by simp [leaveL, hc]
      rw [f1, f2] at h40
      rw [f3] at h41
      generalize checkSlate S = e at h32 h40 h41 hc
      obtain ⟨w, es, ss⟩ := S
      obtain ⟨N, O, p, q⟩ := s
      (try simp only [go_sem, ↓reduceIte, Nat.reduceAdd, Nat.reduceEqDiff, Nat.reduceLT, Nat.reduceLeDiff, Nat.reduceBEq, Int.reduceEq, Int.reduceLT, Int.reduceLE]); (repeat ((first | simp only [h21] | simp only [h24] | simp only [h40] | simp only [h41] | simp only [h32] | rw [eq_n hc] | rw [eq_y rfl] | simp only [h22] | (rw [lt_yes]; rotate_left; (first | omega | (simp [lenOf, app]; omega) | (simp only [lenOf]; omega))) | (rw [lt_no]; rotate_left; (first | omega | (simp [lenOf, app]; omega) | (simp only [lenOf]; omega))) | (rw [idxA_at]; rotate_left; (first | omega | (simp [lenOf, app]; omega) | (simp only [lenOf]; omega))) | (rw [wr_up]; rotate_left; (first | omega | (simp [lenOf, app]; omega) | (simp only [lenOf]; omega))) | ((first | rw [drop_cI] | rw [drop_cE] | rw [drop_cS] | rw [drop_cP] | rw [drop_cR]); rotate_left; assumption)); try simp only [go_sem, ↓reduceIte, Nat.reduceAdd, Nat.reduceEqDiff, Nat.reduceLT, Nat.reduceLeDiff, Nat.reduceBEq, Int.reduceEq, Int.reduceLT, Int.reduceLE]))

theorem Try_own : ownKnob Try.prog.godebug = none := by kernel_rfl
theorem leaves_lifted (os : Os) (started : os.Started) (H : Type) (enc : TypeId × Value → H) :
    ReturnsInHanded {} Try.checked os 6 .any (Ytlhfeiacigmliaa.Rows.soapLeavesSpec.pre6 enc Try.prog Try.f6 Ytlhfeiacigmliaa.Rows.soapLeavesRow.domain false) (Ytlhfeiacigmliaa.Rows.soapLeavesSpec.post enc Try.prog Try.f6 false true false false) := by
  refine returnsInHanded_of_change (C := Try.checked) Try_own started (by kernel_rfl) Try.func6
    (ChangeSpec.witness6 (enc := enc) (C := Try.checked) false ⟨#[], #[.agg #[.int .i64 0, .slice none 0 0, .slice none 0 0]], []⟩ 8 (by kernel_rfl) (by kernel_rfl) (by kernel_rfl) (by kernel_rfl)) ?_
  intro W base args ds gs before hval0 hW hcnd _
  have hval : ∀ (j : Nat) t v, Try.f6.params[j]? = some t → args[j]? = some v → Value.okWide Try.prog W .any base t v := hval0
  have hW' := hW
  obtain ⟨p, q, hA0, hV, rfl, hfz, hnd⟩ := hW
  have hA : DataW.TrodAll enc Try.prog W 0 (fun _ => true) true Try.f6.params.toList args.toList ds p := hA0
  rw [Try.params6] at hA hval
  obtain ⟨v0, d0, rfl, rfl, h0⟩ := trodAll_one hA
  obtain ⟨rfl, rfl⟩ := trodVars_none hV
  obtain ⟨S, hS⟩ := rel_slate (hval 0 25 v0 rfl rfl) h0
  refine (sound_lim tbl_ok (k6 S St.empty) (sim0 Try.prog W) (args' := #[v0]) ⟨v0, [], rfl, hS, rfl⟩).mono fun e W' he => ?_
  obtain ⟨v', ρ', he, hv, _, hF⟩ := he
  subst he
  have hv : v' = .bool true := hv
  subst hv
  exact ⟨_, rfl, shut_true hW' rfl rfl (by rw [Try.params6]; intro t ht; simp at ht; subst ht; exact ⟨by kernel_rfl, of_decide_eq_true (by kernel_rfl)⟩) rfl rfl rfl hF⟩
theorem leaves_holds : Ytlhfeiacigmliaa.Rows.SoapLeavesSaid :=
  OpenClaim.holds_of_wide 6 Try.f6 rfl rfl rfl rfl rfl rfl rfl ⟨rfl, rfl, rfl, rfl, rfl⟩ rfl rfl rfl rfl rfl (by kernel_rfl) Try.func6 (by kernel_rfl)
    (of_decide_eq_true (by kernel_rfl)) (by unfold Func.isWrapper; first | (rw [if_pos (by decide +kernel)]; kernel_rfl) | (rw [if_neg (by decide +kernel)]; exact ⟨rfl, rfl⟩))
    (fun os started H enc _ => leaves_lifted os started H enc)
#print axioms leaves_holds
end Go.Proofs.Ytlhfeiacigmliaa
