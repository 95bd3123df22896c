/- The law SoapNoFewer answers true for every slate, number and words: no payments that settle all are fewer than the fewest ones; these are as many as women that are not owed 0, less the most groups. -/
import Derived.Test.YtlhfeiacigmliaaPartJ
set_option linter.all false
namespace Go.Proofs.Ytlhfeiacigmliaa
open Go Go.ChangeShapes Go.RowKit
set_option maxRecDepth 100000
set_option maxHeartbeats 4000000

theorem k19 (S : Slate) (t : Nat) (ht : t < 65536) (W : List Nat) (hW : ∀ w ∈ W, w < 65536) (s : St) : lim tbl (.call 19 [vSl S, .int .u16 (Int.ofNat t), sl cW W]) s = some (.ret, [.bool true], s) := by
  have h46 := fun s => k46 S s
  have h22 := fun s => k22 s
  rw [lim_call tbl_19]
  cases hT : readyS S with
  | false =>
    rw [hT] at h46
    obtain ⟨w, es, ss⟩ := S
    obtain ⟨N, O, p, q⟩ := s
    (try simp only [go_sem, ↓reduceIte, Nat.reduceAdd, Nat.reduceEqDiff, Nat.reduceLT, Nat.reduceLeDiff, Nat.reduceBEq, Int.reduceEq, Int.reduceLT, Int.reduceLE]); (repeat ((first | simp only [h46] | simp only [h22] | (rw [lt_yes]; rotate_left; (first | omega | (simp [lenOf, app]; omega) | (simp only [lenOf]; omega))) | (rw [lt_no]; rotate_left; (first | omega | (simp [lenOf, app]; omega) | (simp only [lenOf]; omega))) | (rw [idxA_at]; rotate_left; (first | omega | (simp [lenOf, app]; omega) | (simp only [lenOf]; omega))) | (rw [wr_up]; rotate_left; (first | omega | (simp [lenOf, app]; omega) | (simp only [lenOf]; omega))) | ((first | rw [drop_cI] | rw [drop_cE] | rw [drop_cS] | rw [drop_cP] | rw [drop_cR]); rotate_left; assumption)); try simp only [go_sem, ↓reduceIte, Nat.reduceAdd, Nat.reduceEqDiff, Nat.reduceLT, Nat.reduceLeDiff, Nat.reduceBEq, Int.reduceEq, Int.reduceLT, Int.reduceLE]))
  | true =>
    rw [hT] at h46
    obtain ⟨hc, hT1⟩ := ready_inv hT
    obtain ⟨hl1, hl2⟩ := thin_len hT1
    have hG := good_of_check hc
    have hw0 := hG.w0
    have hw6 := hG.w6
    obtain ⟨hm, hM⟩ := many_of_check hc
    have h51 := fun s => k51 S (by omega) s
    rw [hM] at h51
    have hpos := prodN_pos hG.oe
    have hwt : wr .i64 (Int.ofNat t) = Int.ofNat t := wr_nat (by omega)
    have hrem : remI (Int.ofNat t) (Int.ofNat (prodN S.es)) = some (i64 (Int.ofNat (bmod t (prodN S.es)))) := rem_at (by omega)
    have hbm : bmod t (prodN S.es) < prodN S.es := Nat.mod_lt _ hpos
    generalize prodN S.es = M at h51 hrem hm hbm
    have h50 := fun s => k50 S (bmod t M) (by omega) hG.oe (by omega) s
    have ha := nth_areOz hG.oe (bmod t M)
    generalize bmod t M = u at hrem h50 ha
    have hLl := areOz_len ha
    generalize nthRef S.es u = L at h50 ha hLl
    obtain ⟨hE, ho, hp⟩ := play_facts hc ha
    obtain ⟨gs, g1, g2, g3, g4, g5, g6⟩ := groups_nat hc ha
    obtain ⟨p1, p2, p3, p4⟩ := settle_facts hc ha
    have hs : Small (owV S.es L) := fun j => by have := ow240 hc ha j; omega
    have p6 := settle_len hc ha
    obtain ⟨n, hnw⟩ : ∃ n : Nat, S.women = Int.ofNat n := ⟨S.women.toNat, by simp; omega⟩
    have hn6 : n ≤ 6 := by rw [hnw] at hw6; change (n : Int) ≤ 6 at hw6; omega
    have hnt : S.women.toNat = n := by rw [hnw]; rfl
    obtain ⟨q1, q2⟩ := paidL_ok (W := W) (n := n)
    have hPW : ∀ x ∈ paidL W n, PayW S.women.toNat x := by rw [hnt]; exact q2
    have hsP := settles_iff hc ha (P := paidL W n) (by omega) hPW
    have hpr := prove_eq hc ha (P := paidL W n) (by omega) hPW 9
    have hps := prove_eq hc ha (P := settleP S L) (by omega) p1 (Int.ofNat (lenOf (settleP S L)) - 1)
    rw [decide_eq_false (by omega), Bool.false_and] at hps
    have hge : proveS S L (paidL W n) 9 = true → Int.ofNat (lenOf (settleP S L)) ≤ Int.ofNat (lenOf (paidL W n)) := by
      intro h
      rw [hpr, Bool.and_eq_true] at h
      have h1 := hsP.1 h.2
      have := pays_least hs (l := paidL W n) (fun x hx => by
        obtain ⟨f, t, h1, h2, h3⟩ := q2 x hx
        exact ⟨f, t, by omega, by omega, h3⟩) (fun j _ => h1 j)
      unfold lenOf
      simp only [Int.ofNat_eq_natCast]
      omega
    have h70 := fun s => k70 n hn6 S.es S.ss W hW s
    rw [← hnw] at h70
    change ∀ s, lim tbl (.call 70 [vSl S, sl cW W]) s = _ at h70
    have h24 := fun s => k24 S (by omega) (by omega) s
    have h31 := fun s => k31 L (by omega) s
    have h30 := fun s => k30 S L s
    have h53 := fun s => k53 S L s
    have h68 := fun s => k68 (paidL W n) (by omega) s
    have h67 := fun s => k67 S L (paidL W n) 9 (by omega) s
    have h67b := fun s => k67 S L (settleP S L) (Int.ofNat (lenOf (settleP S L)) - 1) (by omega) s
    have h35 := fun s => k35 S L hw0 hw6 (by omega) hLl s
    have h61 := fun s => k61 (openR S L) (Nat.lt_of_lt_of_le (openR_lt hw6 L) (Nat.pow_le_pow_right (n := 2) (i := 6) (by omega) (by omega))) s
    rw [hE] at h30 h53
    rw [hps] at h67b
    have hsum : wr .i64 (Int.add (Int.ofNat (lenOf (settleP S L))) (Int.ofNat (lenOf (groupsP S L)))) = Int.ofNat (lenOf (bitsOf (openR S L))) := by
      rw [open_same hc ha]
      have h1 : lenOf (groupsP S L) = gs.length := by rw [g1]; simp [lenOf]
      have h2 : lenOf (bitsOf (openN (owV S.es L))) = pc (openN (owV S.es L)) := rfl
      rw [h1, h2]
      unfold lenOf
      rw [fold_add, wr_in] <;> simp only [Int.ofNat_eq_natCast] <;> omega
    have hsub : wr .i64 (Int.sub (Int.ofNat (lenOf (settleP S L))) 1) = Int.ofNat (lenOf (settleP S L)) - 1 := by
      unfold lenOf
      rw [fold_sub, wr_in] <;> simp only [Int.ofNat_eq_natCast] <;> omega
    generalize proveS S L (paidL W n) 9 = pr at h67 hge
    generalize openR S L = op at h35 h61 hsum
    generalize bitsOf op = B at h61 hsum
    generalize groupsP S L = G at h30 hsum
    generalize paidL W n = P at h70 h68 h67 hge
    generalize settleP S L = Q at h53 h67b hsum hsub hge
    obtain ⟨w, es, ss⟩ := S
    obtain ⟨N, O, p, q⟩ := s
    cases hpr : pr with
    | false =>
      rw [hpr] at h67
      by_cases hz : Int.ofNat (lenOf Q) = 0
      · (try simp only [go_sem, ↓reduceIte, Nat.reduceAdd, Nat.reduceEqDiff, Nat.reduceLT, Nat.reduceLeDiff, Nat.reduceBEq, Int.reduceEq, Int.reduceLT, Int.reduceLE]); (repeat ((first | simp only [h46] | simp only [h51] | rw [hwt] | rw [hrem] | simp only [h50] | simp only [h70] | simp only [h24] | simp only [h31] | simp only [h53] | simp only [h30] | simp only [h68] | simp only [h67] | simp only [h35] | simp only [h61] | rw [hsum] | rw [eq_y rfl] | rw [eq_y hz] | simp only [h22] | (rw [lt_yes]; rotate_left; (first | omega | (simp [lenOf, app]; omega) | (simp only [lenOf]; omega))) | (rw [lt_no]; rotate_left; (first | omega | (simp [lenOf, app]; omega) | (simp only [lenOf]; omega))) | (rw [idxA_at]; rotate_left; (first | omega | (simp [lenOf, app]; omega) | (simp only [lenOf]; omega))) | (rw [wr_up]; rotate_left; (first | omega | (simp [lenOf, app]; omega) | (simp only [lenOf]; omega))) | ((first | rw [drop_cI] | rw [drop_cE] | rw [drop_cS] | rw [drop_cP] | rw [drop_cR]); rotate_left; assumption)); try simp only [go_sem, ↓reduceIte, Nat.reduceAdd, Nat.reduceEqDiff, Nat.reduceLT, Nat.reduceLeDiff, Nat.reduceBEq, Int.reduceEq, Int.reduceLT, Int.reduceLE]))
      · (try simp only [go_sem, ↓reduceIte, Nat.reduceAdd, Nat.reduceEqDiff, Nat.reduceLT, Nat.reduceLeDiff, Nat.reduceBEq, Int.reduceEq, Int.reduceLT, Int.reduceLE]); (repeat ((first | simp only [h46] | simp only [h51] | rw [hwt] | rw [hrem] | simp only [h50] | simp only [h70] | simp only [h24] | simp only [h31] | simp only [h53] | simp only [h30] | simp only [h68] | simp only [h67] | simp only [h35] | simp only [h61] | rw [hsum] | rw [eq_y rfl] | rw [eq_n hz] | rw [hsub] | simp only [h67b] | simp only [h22] | (rw [lt_yes]; rotate_left; (first | omega | (simp [lenOf, app]; omega) | (simp only [lenOf]; omega))) | (rw [lt_no]; rotate_left; (first | omega | (simp [lenOf, app]; omega) | (simp only [lenOf]; omega))) | (rw [idxA_at]; rotate_left; (first | omega | (simp [lenOf, app]; omega) | (simp only [lenOf]; omega))) | (rw [wr_up]; rotate_left; (first | omega | (simp [lenOf, app]; omega) | (simp only [lenOf]; omega))) | ((first | rw [drop_cI] | rw [drop_cE] | rw [drop_cS] | rw [drop_cP] | rw [drop_cR]); rotate_left; assumption)); try simp only [go_sem, ↓reduceIte, Nat.reduceAdd, Nat.reduceEqDiff, Nat.reduceLT, Nat.reduceLeDiff, Nat.reduceBEq, Int.reduceEq, Int.reduceLT, Int.reduceLE]))
    | true =>
      rw [hpr] at h67
      have hge := hge hpr
      by_cases hz : Int.ofNat (lenOf Q) = 0
      · (try simp only [go_sem, ↓reduceIte, Nat.reduceAdd, Nat.reduceEqDiff, Nat.reduceLT, Nat.reduceLeDiff, Nat.reduceBEq, Int.reduceEq, Int.reduceLT, Int.reduceLE]); (repeat ((first | simp only [h46] | simp only [h51] | rw [hwt] | rw [hrem] | simp only [h50] | simp only [h70] | simp only [h24] | simp only [h31] | simp only [h53] | simp only [h30] | simp only [h68] | simp only [h67] | rw [le_y hge] | simp only [h35] | simp only [h61] | rw [hsum] | rw [eq_y rfl] | rw [eq_y hz] | simp only [h22] | (rw [lt_yes]; rotate_left; (first | omega | (simp [lenOf, app]; omega) | (simp only [lenOf]; omega))) | (rw [lt_no]; rotate_left; (first | omega | (simp [lenOf, app]; omega) | (simp only [lenOf]; omega))) | (rw [idxA_at]; rotate_left; (first | omega | (simp [lenOf, app]; omega) | (simp only [lenOf]; omega))) | (rw [wr_up]; rotate_left; (first | omega | (simp [lenOf, app]; omega) | (simp only [lenOf]; omega))) | ((first | rw [drop_cI] | rw [drop_cE] | rw [drop_cS] | rw [drop_cP] | rw [drop_cR]); rotate_left; assumption)); try simp only [go_sem, ↓reduceIte, Nat.reduceAdd, Nat.reduceEqDiff, Nat.reduceLT, Nat.reduceLeDiff, Nat.reduceBEq, Int.reduceEq, Int.reduceLT, Int.reduceLE]))
      · (try simp only [go_sem, ↓reduceIte, Nat.reduceAdd, Nat.reduceEqDiff, Nat.reduceLT, Nat.reduceLeDiff, Nat.reduceBEq, Int.reduceEq, Int.reduceLT, Int.reduceLE]); (repeat ((first | simp only [h46] | simp only [h51] | rw [hwt] | rw [hrem] | simp only [h50] | simp only [h70] | simp only [h24] | simp only [h31] | simp only [h53] | simp only [h30] | simp only [h68] | simp only [h67] | rw [le_y hge] | simp only [h35] | simp only [h61] | rw [hsum] | rw [eq_y rfl] | rw [eq_n hz] | rw [hsub] | simp only [h67b] | simp only [h22] | (rw [lt_yes]; rotate_left; (first | omega | (simp [lenOf, app]; omega) | (simp only [lenOf]; omega))) | (rw [lt_no]; rotate_left; (first | omega | (simp [lenOf, app]; omega) | (simp only [lenOf]; omega))) | (rw [idxA_at]; rotate_left; (first | omega | (simp [lenOf, app]; omega) | (simp only [lenOf]; omega))) | (rw [wr_up]; rotate_left; (first | omega | (simp [lenOf, app]; omega) | (simp only [lenOf]; omega))) | ((first | rw [drop_cI] | rw [drop_cE] | rw [drop_cS] | rw [drop_cP] | rw [drop_cR]); rotate_left; assumption)); try simp only [go_sem, ↓reduceIte, Nat.reduceAdd, Nat.reduceEqDiff, Nat.reduceLT, Nat.reduceLeDiff, Nat.reduceBEq, Int.reduceEq, Int.reduceLT, Int.reduceLE]))
theorem Try_own : ownKnob Try.prog.godebug = none := by kernel_rfl
theorem nofewer_lifted (os : Os) (started : os.Started) (H : Type) (enc : TypeId × Value → H) :
    ReturnsInHanded {} Try.checked os 19 .any (Ytlhfeiacigmliaa.Rows.soapNoFewerSpec.pre6 enc Try.prog Try.f19 Ytlhfeiacigmliaa.Rows.soapNoFewerRow.domain false) (Ytlhfeiacigmliaa.Rows.soapNoFewerSpec.post enc Try.prog Try.f19 false true false false) := by
  refine returnsInHanded_of_change (C := Try.checked) Try_own started (by kernel_rfl) Try.func19
    (ChangeSpec.witness6 (enc := enc) (C := Try.checked) false ⟨#[], #[.agg #[.int .i64 0, .slice none 0 0, .slice none 0 0], .int .u16 0, .slice none 0 0], []⟩ 8 (by kernel_rfl) (by kernel_rfl) (by kernel_rfl) (by kernel_rfl)) ?_
  intro W base args ds gs before hval0 hW hcnd _
  have hval : ∀ (j : Nat) t v, Try.f19.params[j]? = some t → args[j]? = some v → Value.okWide Try.prog W .any base t v := hval0
  have hW' := hW
  obtain ⟨p, q, hA0, hV, rfl, hfz, hnd⟩ := hW
  have hA : DataW.TrodAll enc Try.prog W 0 (fun _ => true) true Try.f19.params.toList args.toList ds p := hA0
  rw [Try.params19] at hA hval
  obtain ⟨v0, v1, v2, d0, d1, d2, p0, p1, p2, rfl, rfl, hp, h0, h1, h2⟩ := trodAll_three hA
  obtain ⟨rfl, rfl⟩ := trodVars_none hV
  obtain ⟨x0, r0⟩ := rel_slate (hval 0 25 v0 rfl rfl) h0
  obtain ⟨x1, l1, r1⟩ := rel_u16 (hval 1 69 v1 rfl rfl) h1
  obtain ⟨x2, l2, r2⟩ := rel_words (hval 2 97 v2 rfl rfl) h2
  refine (sound_lim tbl_ok (k19 x0 x1 l1 x2 l2 St.empty) (sim0 Try.prog W) (args' := #[v0, v1, v2]) ⟨v0, [v1, v2], rfl, r0, ⟨v1, [v2], rfl, r1, ⟨v2, [], rfl, r2, rfl⟩⟩⟩).mono fun e W' he => ?_
  obtain ⟨v', ρ', he, hv, _, hF⟩ := he
  subst he
  have hv : v' = .bool true := hv
  subst hv
  exact ⟨_, rfl, shut_true hW' rfl rfl (by rw [Try.params19]; intro t ht; simp at ht; rcases ht with rfl | rfl | rfl <;> exact ⟨by kernel_rfl, of_decide_eq_true (by kernel_rfl)⟩) rfl rfl rfl hF⟩
theorem nofewer_holds : Ytlhfeiacigmliaa.Rows.SoapNoFewerSaid :=
  OpenClaim.holds_of_wide 19 Try.f19 rfl rfl rfl rfl rfl rfl rfl ⟨rfl, rfl, rfl, rfl, rfl⟩ rfl rfl rfl rfl rfl (by kernel_rfl) Try.func19 (by kernel_rfl)
    (of_decide_eq_true (by kernel_rfl)) (by unfold Func.isWrapper; first | (rw [if_pos (by decide +kernel)]; kernel_rfl) | (rw [if_neg (by decide +kernel)]; exact ⟨rfl, rfl⟩))
    (fun os started H enc _ => nofewer_lifted os started H enc)
#print axioms nofewer_holds
end Go.Proofs.Ytlhfeiacigmliaa
