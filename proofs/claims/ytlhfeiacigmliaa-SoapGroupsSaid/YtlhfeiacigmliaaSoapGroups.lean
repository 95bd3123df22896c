/- The law SoapGroups answers true for every slate and list: the groups that are returned for any ounces are the most, or the error is as the document says. -/
import Derived.Test.YtlhfeiacigmliaaPartI
set_option linter.all false
namespace Go.Proofs.Ytlhfeiacigmliaa
open Go Go.ChangeShapes Go.RowKit
set_option maxRecDepth 100000

theorem groups_facts {S : Slate} {L : List Int} (hc : checkSlate S = 0) (ha : areOz S.es L = true) : ∃ gs : List Nat, groupsP S L = gs.map bitsOf ∧ GrpsOk (togA S.es L) (openR S L) gs ∧ gs.length = mostR (togA S.es L) 64 (openR S L) ∧ gs.length ≤ 6 ∧ ∀ x ∈ groupsP S L, x.length ≤ 6 := by
  have hG := good_of_check hc
  have hE : playErr S L = 0 := by unfold playErr; rw [if_neg (by simp [hc]), ha, if_pos rfl]
  have ho : playOw S L = owV S.es L := by unfold playOw; rw [if_pos ⟨hc, ha⟩]
  have hs := small_ow hG ha
  have hT : ∀ g, g < 64 → togA S.es L g = ps (owV S.es L) g := fun g hg => togA_ps hs hg
  have hz := open_zero hc ha
  have hlt := openN_lt (owV S.es L)
  obtain ⟨gs, h1, h2, h3⟩ := groups_law hs hT hz
  have hp : groupsP S L = gs.map bitsOf := by unfold groupsP; rw [if_pos hE, ho, h1]
  have h6 := (grps_part hT hlt h2).le hlt
  have hpc := (pc_facts _ hlt).1
  refine ⟨gs, hp, by rw [open_same hc ha]; exact h2, by rw [open_same hc ha, most_same hs hT hlt hz, h3], by omega, ?_⟩
  intro x hx
  rw [hp, List.mem_map] at hx
  obtain ⟨g, hg, rfl⟩ := hx
  have : ∀ {gs : List Nat} {left : Nat}, left < 64 → GrpsOk (togA S.es L) left gs → ∀ g ∈ gs, g < 64 := by
    intro gs
    induction gs with
    | nil => intro _ _ _ g hg; simp at hg
    | cons g gs ih =>
      intro left hl hk x hx
      obtain ⟨_, k2, _, k4⟩ := hk
      rcases List.mem_cons.mp hx with rfl | hx
      · exact Nat.lt_of_le_of_lt (band_sb k2).le hl
      · exact ih (Nat.lt_of_le_of_lt (sb_sub _ _).le hl) k4 x hx
  exact (bits_facts 6 (by omega) g (this hlt h2 g hg)).2.2.2.2
theorem k4 (S : Slate) (L : List Int) (s : St) : lim tbl (.call 4 [vSl S, sl cI L]) s = some (.ret, [.bool true], s) := by
  have h21 := fun s => k21 S s
  have h22 := fun s => k22 s
  rw [lim_call tbl_4]
  cases hT : thin S with
  | false =>
    rw [hT] at h21
    obtain ⟨w, es, ss⟩ := S
    obtain ⟨N, O, p, q⟩ := s
    (try simp only [go_sem, ↓reduceIte, Nat.reduceAdd, Nat.reduceEqDiff, Nat.reduceLT, Nat.reduceLeDiff, Nat.reduceBEq, Int.reduceEq, Int.reduceLT, Int.reduceLE]); (repeat ((first | simp only [h21] | simp only [h22] | (rw [lt_yes]; rotate_left; (first | omega | (simp [lenOf, app]; omega) | (simp only [lenOf]; omega))) | (rw [lt_no]; rotate_left; (first | omega | (simp [lenOf, app]; omega) | (simp only [lenOf]; omega))) | (rw [idxA_at]; rotate_left; (first | omega | (simp [lenOf, app]; omega) | (simp only [lenOf]; omega))) | (rw [wr_up]; rotate_left; (first | omega | (simp [lenOf, app]; omega) | (simp only [lenOf]; omega))) | ((first | rw [drop_cI] | rw [drop_cE] | rw [drop_cS] | rw [drop_cP] | rw [drop_cR]); rotate_left; assumption)); try simp only [go_sem, ↓reduceIte, Nat.reduceAdd, Nat.reduceEqDiff, Nat.reduceLT, Nat.reduceLeDiff, Nat.reduceBEq, Int.reduceEq, Int.reduceLT, Int.reduceLE]))
  | true =>
    rw [hT] at h21
    obtain ⟨hl1, hl2⟩ := thin_len hT
    by_cases hn : (9 : Int) < Int.ofNat (lenOf L)
    · obtain ⟨w, es, ss⟩ := S
      obtain ⟨N, O, p, q⟩ := s
      (try simp only [go_sem, ↓reduceIte, Nat.reduceAdd, Nat.reduceEqDiff, Nat.reduceLT, Nat.reduceLeDiff, Nat.reduceBEq, Int.reduceEq, Int.reduceLT, Int.reduceLE]); (repeat ((first | simp only [h21] | rw [lt_y hn] | simp only [h22] | (rw [lt_yes]; rotate_left; (first | omega | (simp [lenOf, app]; omega) | (simp only [lenOf]; omega))) | (rw [lt_no]; rotate_left; (first | omega | (simp [lenOf, app]; omega) | (simp only [lenOf]; omega))) | (rw [idxA_at]; rotate_left; (first | omega | (simp [lenOf, app]; omega) | (simp only [lenOf]; omega))) | (rw [wr_up]; rotate_left; (first | omega | (simp [lenOf, app]; omega) | (simp only [lenOf]; omega))) | ((first | rw [drop_cI] | rw [drop_cE] | rw [drop_cS] | rw [drop_cP] | rw [drop_cR]); rotate_left; assumption)); try simp only [go_sem, ↓reduceIte, Nat.reduceAdd, Nat.reduceEqDiff, Nat.reduceLT, Nat.reduceLeDiff, Nat.reduceBEq, Int.reduceEq, Int.reduceLT, Int.reduceLE]))
    · have hL9 : L.length ≤ 9 := by
        have h : ¬ (9 : Int) < (L.length : Int) := hn
        omega
      have h24 := fun s => k24 S (by omega) (by omega) s
      have h31 := fun s => k31 L (by omega) s
      have h30 := fun s => k30 S L s
      have h32 := fun s => k32 S s
      rw [fault_eq] at h32
      have h33 := fun s => k33 S L (by omega) s
      by_cases hc : checkSlate S = 0
      · have hG := good_of_check hc
        have hE : playErr S L = if areOz S.es L then 0 else 2 := by unfold playErr; rw [if_neg (by simp [hc])]
        rw [hc] at h32
        cases ha : areOz S.es L with
        | false =>
          rw [ha] at hE h33
          simp only [Bool.false_eq_true, if_false] at hE
          have hp : groupsP S L = [] := by unfold groupsP; rw [if_neg (by rw [hE]; decide)]
          rw [hE, hp] at h30
          obtain ⟨w, es, ss⟩ := S
          obtain ⟨N, O, p, q⟩ := s
          (try simp only [go_sem, ↓reduceIte, Nat.reduceAdd, Nat.reduceEqDiff, Nat.reduceLT, Nat.reduceLeDiff, Nat.reduceBEq, Int.reduceEq, Int.reduceLT, Int.reduceLE]); (repeat ((first | simp only [h21] | rw [lt_n hn] | simp only [h24] | simp only [h31] | simp only [h30] | simp only [h32] | simp only [h33] | simp only [h22] | (rw [lt_yes]; rotate_left; (first | omega | (simp [lenOf, app]; omega) | (simp only [lenOf]; omega))) | (rw [lt_no]; rotate_left; (first | omega | (simp [lenOf, app]; omega) | (simp only [lenOf]; omega))) | (rw [idxA_at]; rotate_left; (first | omega | (simp [lenOf, app]; omega) | (simp only [lenOf]; omega))) | (rw [wr_up]; rotate_left; (first | omega | (simp [lenOf, app]; omega) | (simp only [lenOf]; omega))) | ((first | rw [drop_cI] | rw [drop_cE] | rw [drop_cS] | rw [drop_cP] | rw [drop_cR]); rotate_left; assumption)); try simp only [go_sem, ↓reduceIte, Nat.reduceAdd, Nat.reduceEqDiff, Nat.reduceLT, Nat.reduceLeDiff, Nat.reduceBEq, Int.reduceEq, Int.reduceLT, Int.reduceLE]))
        | true =>
          rw [ha] at hE h33
          simp only [if_true] at hE
          obtain ⟨gs, g1, g2, g3, g4, g5⟩ := groups_facts hc ha
          have hl := areOz_len ha
          have h35 := fun s => k35 S L hG.w0 hG.w6 (by omega) hl s
          have h34 := fun s => k34 S L (by omega) hl (openR S L) (openR_lt hG.w6 L) s
          have h37 := fun s => k37 S L hG.w0 hG.w6 (by omega) hl gs (by omega) g2 s
          have h36 := fun s => k36 (groupsP S L) (by rw [g1, List.length_map]; exact g4) g5 s
          have hlen : lenOf (groupsP S L) = mostR (togA S.es L) 64 (openR S L) := by rw [g1, ← g3]; simp [lenOf]
          rw [hE] at h30
          rw [← g1] at h37
          generalize groupsP S L = V at h30 h36 h37 hlen
          generalize mostR (togA S.es L) 64 (openR S L) = M at h34 hlen
          generalize openR S L = B at h34 h35
          obtain ⟨w, es, ss⟩ := S
          obtain ⟨N, O, p, q⟩ := s
          (try simp only [go_sem, ↓reduceIte, Nat.reduceAdd, Nat.reduceEqDiff, Nat.reduceLT, Nat.reduceLeDiff, Nat.reduceBEq, Int.reduceEq, Int.reduceLT, Int.reduceLE]); (repeat ((first | simp only [h21] | rw [lt_n hn] | simp only [h24] | simp only [h31] | simp only [h30] | simp only [h32] | simp only [h33] | simp only [h35] | simp only [h34] | rw [eqN_y hlen] | simp only [h36] | simp only [h37] | simp only [h22] | (rw [lt_yes]; rotate_left; (first | omega | (simp [lenOf, app]; omega) | (simp only [lenOf]; omega))) | (rw [lt_no]; rotate_left; (first | omega | (simp [lenOf, app]; omega) | (simp only [lenOf]; omega))) | (rw [idxA_at]; rotate_left; (first | omega | (simp [lenOf, app]; omega) | (simp only [lenOf]; omega))) | (rw [wr_up]; rotate_left; (first | omega | (simp [lenOf, app]; omega) | (simp only [lenOf]; omega))) | ((first | rw [drop_cI] | rw [drop_cE] | rw [drop_cS] | rw [drop_cP] | rw [drop_cR]); rotate_left; assumption)); try simp only [go_sem, ↓reduceIte, Nat.reduceAdd, Nat.reduceEqDiff, Nat.reduceLT, Nat.reduceLeDiff, Nat.reduceBEq, Int.reduceEq, Int.reduceLT, Int.reduceLE]))
      · have hE : playErr S L = checkSlate S := by unfold playErr; rw [if_pos hc]
        have hp : groupsP S L = [] := by unfold groupsP; rw [if_neg (by rw [hE]; exact hc)]
        rw [hE, hp] at h30
        generalize checkSlate S = e at h32 h30 hc
        obtain ⟨w, es, ss⟩ := S
        obtain ⟨N, O, p, q⟩ := s
        (try simp only [go_sem, ↓reduceIte, Nat.reduceAdd, Nat.reduceEqDiff, Nat.reduceLT, Nat.reduceLeDiff, Nat.reduceBEq, Int.reduceEq, Int.reduceLT, Int.reduceLE]); (repeat ((first | simp only [h21] | rw [lt_n hn] | simp only [h24] | simp only [h31] | simp only [h30] | simp only [h32] | rw [eq_n hc] | rw [eq_y rfl] | simp only [h22] | (rw [lt_yes]; rotate_left; (first | omega | (simp [lenOf, app]; omega) | (simp only [lenOf]; omega))) | (rw [lt_no]; rotate_left; (first | omega | (simp [lenOf, app]; omega) | (simp only [lenOf]; omega))) | (rw [idxA_at]; rotate_left; (first | omega | (simp [lenOf, app]; omega) | (simp only [lenOf]; omega))) | (rw [wr_up]; rotate_left; (first | omega | (simp [lenOf, app]; omega) | (simp only [lenOf]; omega))) | ((first | rw [drop_cI] | rw [drop_cE] | rw [drop_cS] | rw [drop_cP] | rw [drop_cR]); rotate_left; assumption)); try simp only [go_sem, ↓reduceIte, Nat.reduceAdd, Nat.reduceEqDiff, Nat.reduceLT, Nat.reduceLeDiff, Nat.reduceBEq, Int.reduceEq, Int.reduceLT, Int.reduceLE]))
theorem Try_own : ownKnob Try.prog.godebug = none := by kernel_rfl
theorem groups_lifted (os : Os) (started : os.Started) (H : Type) (enc : TypeId × Value → H) :
    ReturnsInHanded {} Try.checked os 4 .any (Ytlhfeiacigmliaa.Rows.soapGroupsSpec.pre6 enc Try.prog Try.f4 Ytlhfeiacigmliaa.Rows.soapGroupsRow.domain false) (Ytlhfeiacigmliaa.Rows.soapGroupsSpec.post enc Try.prog Try.f4 false true false false) := by
  refine returnsInHanded_of_change (C := Try.checked) Try_own started (by kernel_rfl) Try.func4
    (ChangeSpec.witness6 (enc := enc) (C := Try.checked) false ⟨#[], #[.agg #[.int .i64 0, .slice none 0 0, .slice none 0 0], .slice none 0 0], []⟩ 8 (by kernel_rfl) (by kernel_rfl) (by kernel_rfl) (by kernel_rfl)) ?_
  intro W base args ds gs before hval0 hW hcnd _
  have hval : ∀ (j : Nat) t v, Try.f4.params[j]? = some t → args[j]? = some v → Value.okWide Try.prog W .any base t v := hval0
  have hW' := hW
  obtain ⟨p, q, hA0, hV, rfl, hfz, hnd⟩ := hW
  have hA : DataW.TrodAll enc Try.prog W 0 (fun _ => true) true Try.f4.params.toList args.toList ds p := hA0
  rw [Try.params4] at hA hval
  obtain ⟨v0, v1, d0, d1, p0, p1, rfl, rfl, hp, h0, h1⟩ := trodAll_two hA
  obtain ⟨rfl, rfl⟩ := trodVars_none hV
  obtain ⟨x0, r0⟩ := rel_slate (hval 0 25 v0 rfl rfl) h0
  obtain ⟨x1, r1⟩ := rel_list (hval 1 37 v1 rfl rfl) h1
  refine (sound_lim tbl_ok (k4 x0 x1 St.empty) (sim0 Try.prog W) (args' := #[v0, v1]) ⟨v0, [v1], rfl, r0, ⟨v1, [], rfl, r1, rfl⟩⟩).mono fun e W' he => ?_
  obtain ⟨v', ρ', he, hv, _, hF⟩ := he
  subst he
  have hv : v' = .bool true := hv
  subst hv
  exact ⟨_, rfl, shut_true hW' rfl rfl (by rw [Try.params4]; intro t ht; simp at ht; rcases ht with rfl | rfl <;> exact ⟨by kernel_rfl, of_decide_eq_true (by kernel_rfl)⟩) rfl rfl rfl hF⟩
theorem groups_holds : Ytlhfeiacigmliaa.Rows.SoapGroupsSaid :=
  OpenClaim.holds_of_wide 4 Try.f4 rfl rfl rfl rfl rfl rfl rfl ⟨rfl, rfl, rfl, rfl, rfl⟩ rfl rfl rfl rfl rfl (by kernel_rfl) Try.func4 (by kernel_rfl)
    (of_decide_eq_true (by kernel_rfl)) (by unfold Func.isWrapper; first | (rw [if_pos (by decide +kernel)]; kernel_rfl) | (rw [if_neg (by decide +kernel)]; exact ⟨rfl, rfl⟩))
    (fun os started H enc _ => groups_lifted os started H enc)
#print axioms groups_holds
end Go.Proofs.Ytlhfeiacigmliaa
