/- The law SoapPlays answers true for every slate and list: the error of a slate, what all women are owed, and whether a list is a truth, are as the document says, or the error is. -/
import Derived.Test.YtlhfeiacigmliaaPartJ
set_option linter.all false
namespace Go.Proofs.Ytlhfeiacigmliaa
open Go Go.ChangeShapes Go.RowKit
set_option maxRecDepth 100000

theorem prove_eq (S : Slate) (L : List Int) : proveT S L = (decide (checkSlate S = 0) && isTruth S L) := by
  unfold proveT
  by_cases hc : checkSlate S = 0
  · have hG := good_of_check hc
    have hE : playErr S L = if areOz S.es L then 0 else 2 := by unfold playErr; rw [if_neg (by simp [hc])]
    cases ha : areOz S.es L with
    | false =>
      rw [ha] at hE
      simp only [Bool.false_eq_true, if_false] at hE
      simp [hE, isTruth, ha]
    | true =>
      rw [ha] at hE
      simp only [if_true] at hE
      have ho : playOw S L = owV S.es L := by unfold playOw; rw [if_pos ⟨hc, ha⟩]
      have hb : rightUp (owV S.es L) [] 0 S.ss = decide (rightN S L = fullN (lenOf S.ss)) := by
        rw [Bool.eq_iff_iff, decide_eq_true_eq, right_all hG, full_iff]
      rw [hE, ho, hb, hc]
      unfold isTruth rightN
      rw [ha]
      simp
  · have hE : playErr S L = checkSlate S := by unfold playErr; rw [if_pos hc]
    rw [hE]
    simp [hc]
theorem l15 (w : Int) (es : List Ent) (ss : List Say) (L V : List Int) (hE : es.length < 1000000) (hL : L.length = es.length) (hVl : V.length < 1000) (hV : ∀ i, i < V.length → V[i]? = some (owedUp 0 (Int.ofNat i) es L)) (s : St) : ∀ (k i : Nat), i + k = V.length →
    lim tbl (.loop a15_l0 96 ⟨[1, 2, 5, 9], [], [4]⟩ [sl cI L, .vref [i64 w, sl cE es, sl cS ss], sl cI V, i64 (Int.ofNat i)]) s = some (.exit 0, [], s) := by
  intro k
  induction k with
  | zero =>
    intro i hi
    rw [lim_loop]
    obtain ⟨N, O, p, q⟩ := s
    (try simp only [go_sem, ↓reduceIte, Nat.reduceAdd, Nat.reduceEqDiff, Nat.reduceLT, Nat.reduceLeDiff, Nat.reduceBEq, Int.reduceEq, Int.reduceLT, Int.reduceLE]); (repeat ((first | (rw [lt_yes]; rotate_left; (first | omega | (simp [lenOf, app]; omega) | (simp only [lenOf]; omega))) | (rw [lt_no]; rotate_left; (first | omega | (simp [lenOf, app]; omega) | (simp only [lenOf]; omega))) | (rw [idxA_at]; rotate_left; (first | omega | (simp [lenOf, app]; omega) | (simp only [lenOf]; omega))) | (rw [wr_up]; rotate_left; (first | omega | (simp [lenOf, app]; omega) | (simp only [lenOf]; omega))) | ((first | rw [drop_cI] | rw [drop_cE] | rw [drop_cS] | rw [drop_cP] | rw [drop_cR]); rotate_left; assumption)); try simp only [go_sem, ↓reduceIte, Nat.reduceAdd, Nat.reduceEqDiff, Nat.reduceLT, Nat.reduceLeDiff, Nat.reduceBEq, Int.reduceEq, Int.reduceLT, Int.reduceLE]))
  | succ k ih =>
    intro i hi
    have ih' := ih (i + 1) (by omega)
    have h48 := fun s => k48 ⟨w, es, ss⟩ L (Int.ofNat i) hE hL s
    have hv := hV i (by omega)
    rw [lim_loop]
    simp only at h48
    generalize owedUp 0 (Int.ofNat i) es L = o at h48 hv
    obtain ⟨N, O, p, q⟩ := s
    (try simp only [go_sem, ↓reduceIte, Nat.reduceAdd, Nat.reduceEqDiff, Nat.reduceLT, Nat.reduceLeDiff, Nat.reduceBEq, Int.reduceEq, Int.reduceLT, Int.reduceLE]); (repeat ((first | simp only [h48] | simp only [ih'] | rw [eq_y rfl] | (rw [lt_yes]; rotate_left; (first | omega | (simp [lenOf, app]; omega) | (simp only [lenOf]; omega))) | (rw [lt_no]; rotate_left; (first | omega | (simp [lenOf, app]; omega) | (simp only [lenOf]; omega))) | (rw [idxA_at]; rotate_left; (first | omega | (simp [lenOf, app]; omega) | (simp only [lenOf]; omega))) | (rw [wr_up]; rotate_left; (first | omega | (simp [lenOf, app]; omega) | (simp only [lenOf]; omega))) | ((first | rw [drop_cI] | rw [drop_cE] | rw [drop_cS] | rw [drop_cP] | rw [drop_cR]); rotate_left; assumption)); try simp only [go_sem, ↓reduceIte, Nat.reduceAdd, Nat.reduceEqDiff, Nat.reduceLT, Nat.reduceLeDiff, Nat.reduceBEq, Int.reduceEq, Int.reduceLT, Int.reduceLE]))
theorem k15 (S : Slate) (L : List Int) (s : St) : lim tbl (.call 15 [vSl S, sl cI L]) s = some (.ret, [.bool true], s) := by
  have h21 := fun s => k21 S s
  have h22 := fun s => k22 s
  rw [lim_call tbl_15]
  cases hT : thin S with
  | false =>
    rw [hT] at h21
    obtain ⟨w, es, ss⟩ := S
    obtain ⟨N, O, p, q⟩ := s
    (try simp only [go_sem, ↓reduceIte, Nat.reduceAdd, Nat.reduceEqDiff, Nat.reduceLT, Nat.reduceLeDiff, Nat.reduceBEq, Int.reduceEq, Int.reduceLT, Int.reduceLE]); (repeat ((first | simp only [h21] | simp only [h22] | (rw [lt_yes]; rotate_left; (first | omega | (simp [lenOf, app]; omega) | (simp only [lenOf]; omega))) | (rw [lt_no]; rotate_left; (first | omega | (simp [lenOf, app]; omega) | (simp only [lenOf]; omega))) | (rw [idxA_at]; rotate_left; (first | omega | (simp [lenOf, app]; omega) | (simp only [lenOf]; omega))) | (rw [wr_up]; rotate_left; (first | omega | (simp [lenOf, app]; omega) | (simp only [lenOf]; omega))) | ((first | rw [drop_cI] | rw [drop_cE] | rw [drop_cS] | rw [drop_cP] | rw [drop_cR]); rotate_left; assumption)); try simp only [go_sem, ↓reduceIte, Nat.reduceAdd, Nat.reduceEqDiff, Nat.reduceLT, Nat.reduceLeDiff, Nat.reduceBEq, Int.reduceEq, Int.reduceLT, Int.reduceLE]))
  | true =>
    rw [hT] at h21
    obtain ⟨hl1, hl2⟩ := thin_len hT
    by_cases hn : (9 : Int) < Int.ofNat (lenOf L)
    · obtain ⟨w, es, ss⟩ := S
      obtain ⟨N, O, p, q⟩ := s
      (try simp only [go_sem, ↓reduceIte, Nat.reduceAdd, Nat.reduceEqDiff, Nat.reduceLT, Nat.reduceLeDiff, Nat.reduceBEq, Int.reduceEq, Int.reduceLT, Int.reduceLE]); (repeat ((first | simp only [h21] | rw [lt_y hn] | simp only [h22] | (rw [lt_yes]; rotate_left; (first | omega | (simp [lenOf, app]; omega) | (simp only [lenOf]; omega))) | (rw [lt_no]; rotate_left; (first | omega | (simp [lenOf, app]; omega) | (simp only [lenOf]; omega))) | (rw [idxA_at]; rotate_left; (first | omega | (simp [lenOf, app]; omega) | (simp only [lenOf]; omega))) | (rw [wr_up]; rotate_left; (first | omega | (simp [lenOf, app]; omega) | (simp only [lenOf]; omega))) | ((first | rw [drop_cI] | rw [drop_cE] | rw [drop_cS] | rw [drop_cP] | rw [drop_cR]); rotate_left; assumption)); try simp only [go_sem, ↓reduceIte, Nat.reduceAdd, Nat.reduceEqDiff, Nat.reduceLT, Nat.reduceLeDiff, Nat.reduceBEq, Int.reduceEq, Int.reduceLT, Int.reduceLE]))
    · have hL9 : L.length ≤ 9 := by
        have h : ¬ (9 : Int) < (L.length : Int) := hn
        omega
      have h24 := fun s => k24 S (by omega) (by omega) s
      have h31 := fun s => k31 L (by omega) s
      have hg : checkSlate S = 0 → Good S := good_of_check
      have h52 := fun s => k52 S L hg s
      have h62 := fun s => k62 S L hg s
      have h63 := fun s => k63 S s
      have h32 := fun s => k32 S s
      rw [fault_eq] at h32
      have h64 := fun s => k64 S L (by omega) (by omega) s
      have h33 := fun s => k33 S L (by omega) s
      rw [prove_eq] at h62
      by_cases hc : checkSlate S = 0
      · have hG := good_of_check hc
        have hE : playErr S L = if areOz S.es L then 0 else 2 := by unfold playErr; rw [if_neg (by simp [hc])]
        simp only [hc, decide_true, Bool.true_and] at h62
        rw [hc] at h63 h32
        cases ha : areOz S.es L with
        | false =>
          have hi : isTruth S L = false := by simp [isTruth, ha]
          rw [ha] at hE h33
          simp only [Bool.false_eq_true, if_false] at hE
          have hp : playL S L = [] := by unfold playL; rw [if_neg (by rw [hE]; decide)]
          rw [hE, hp] at h52
          rw [hi] at h62 h64
          obtain ⟨w, es, ss⟩ := S
          obtain ⟨N, O, p, q⟩ := s
          (try simp only [go_sem, ↓reduceIte, Nat.reduceAdd, Nat.reduceEqDiff, Nat.reduceLT, Nat.reduceLeDiff, Nat.reduceBEq, Int.reduceEq, Int.reduceLT, Int.reduceLE]); (repeat ((first | simp only [h21] | rw [lt_n hn] | simp only [h24] | simp only [h31] | simp only [h52] | simp only [h62] | simp only [h63] | simp only [h32] | simp only [h64] | simp only [h33] | simp only [h22] | (rw [lt_yes]; rotate_left; (first | omega | (simp [lenOf, app]; omega) | (simp only [lenOf]; omega))) | (rw [lt_no]; rotate_left; (first | omega | (simp [lenOf, app]; omega) | (simp only [lenOf]; omega))) | (rw [idxA_at]; rotate_left; (first | omega | (simp [lenOf, app]; omega) | (simp only [lenOf]; omega))) | (rw [wr_up]; rotate_left; (first | omega | (simp [lenOf, app]; omega) | (simp only [lenOf]; omega))) | ((first | rw [drop_cI] | rw [drop_cE] | rw [drop_cS] | rw [drop_cP] | rw [drop_cR]); rotate_left; assumption)); try simp only [go_sem, ↓reduceIte, Nat.reduceAdd, Nat.reduceEqDiff, Nat.reduceLT, Nat.reduceLeDiff, Nat.reduceBEq, Int.reduceEq, Int.reduceLT, Int.reduceLE]))
        | true =>
          rw [ha] at hE h33
          simp only [if_true] at hE
          have ho : playOw S L = owV S.es L := by unfold playOw; rw [if_pos ⟨hc, ha⟩]
          have hp : playL S L = l6 (owV S.es L) S.women.toNat := by unfold playL; rw [if_pos hE, ho]
          have hw0 := hG.w0
          have hw6 := hG.w6
          obtain ⟨n, hnw⟩ : ∃ n : Nat, S.women = Int.ofNat n := ⟨S.women.toNat, by simp; omega⟩
          have hn6 : n ≤ 6 := by rw [hnw] at hw6; change (n : Int) ≤ 6 at hw6; omega
          rw [hnw] at hp
          change _ = l6 (owV S.es L) n at hp
          have hpl : lenOf (playL S L) = n := by rw [hp]; simp [l6, lenOf]
          have hV : ∀ i, i < (playL S L).length → (playL S L)[i]? = some (owedUp 0 (Int.ofNat i) S.es L) := by
            intro i hi
            have hi' : i < n := by have : (playL S L).length = n := hpl; omega
            rw [hp]
            simp only [l6, List.getElem?_map, List.getElem?_range hi', Option.map_some]
            rfl
          have hpl' : (playL S L).length = n := hpl
          have l0 := fun s => l15 S.women S.es S.ss L (playL S L) (by omega) (areOz_len ha) (by omega) hV s n 0 (by omega)
          rw [ofNat_0] at l0
          rw [hE] at h52
          generalize playL S L = V at h52 l0 hpl
          generalize isTruth S L = b at h62 h64
          obtain ⟨w, es, ss⟩ := S
          simp only at hnw l0
          subst hnw
          obtain ⟨N, O, p, q⟩ := s
          cases b with
          | true => (try simp only [go_sem, ↓reduceIte, Nat.reduceAdd, Nat.reduceEqDiff, Nat.reduceLT, Nat.reduceLeDiff, Nat.reduceBEq, Int.reduceEq, Int.reduceLT, Int.reduceLE]); (repeat ((first | simp only [h21] | rw [lt_n hn] | simp only [h24] | simp only [h31] | simp only [h52] | simp only [h62] | simp only [h63] | simp only [h32] | simp only [h64] | simp only [h33] | simp only [hpl] | rw [eq_y rfl] | simp only [l0] | simp only [h22] | (rw [lt_yes]; rotate_left; (first | omega | (simp [lenOf, app]; omega) | (simp only [lenOf]; omega))) | (rw [lt_no]; rotate_left; (first | omega | (simp [lenOf, app]; omega) | (simp only [lenOf]; omega))) | (rw [idxA_at]; rotate_left; (first | omega | (simp [lenOf, app]; omega) | (simp only [lenOf]; omega))) | (rw [wr_up]; rotate_left; (first | omega | (simp [lenOf, app]; omega) | (simp only [lenOf]; omega))) | ((first | rw [drop_cI] | rw [drop_cE] | rw [drop_cS] | rw [drop_cP] | rw [drop_cR]); rotate_left; assumption)); try simp only [go_sem, ↓reduceIte, Nat.reduceAdd, Nat.reduceEqDiff, Nat.reduceLT, Nat.reduceLeDiff, Nat.reduceBEq, Int.reduceEq, Int.reduceLT, Int.reduceLE]))
          | false => (try simp only [go_sem, ↓reduceIte, Nat.reduceAdd, Nat.reduceEqDiff, Nat.reduceLT, Nat.reduceLeDiff, Nat.reduceBEq, Int.reduceEq, Int.reduceLT, Int.reduceLE]); (repeat ((first | simp only [h21] | rw [lt_n hn] | simp only [h24] | simp only [h31] | simp only [h52] | simp only [h62] | simp only [h63] | simp only [h32] | simp only [h64] | simp only [h33] | simp only [hpl] | rw [eq_y rfl] | simp only [l0] | simp only [h22] | (rw [lt_yes]; rotate_left; (first | omega | (simp [lenOf, app]; omega) | (simp only [lenOf]; omega))) | (rw [lt_no]; rotate_left; (first | omega | (simp [lenOf, app]; omega) | (simp only [lenOf]; omega))) | (rw [idxA_at]; rotate_left; (first | omega | (simp [lenOf, app]; omega) | (simp only [lenOf]; omega))) | (rw [wr_up]; rotate_left; (first | omega | (simp [lenOf, app]; omega) | (simp only [lenOf]; omega))) | ((first | rw [drop_cI] | rw [drop_cE] | rw [drop_cS] | rw [drop_cP] | rw [drop_cR]); rotate_left; assumption)); try simp only [go_sem, ↓reduceIte, Nat.reduceAdd, Nat.reduceEqDiff, Nat.reduceLT, Nat.reduceLeDiff, Nat.reduceBEq, Int.reduceEq, Int.reduceLT, Int.reduceLE]))
      · have hE : playErr S L = checkSlate S := by unfold playErr; rw [if_pos hc]
        have hp : playL S L = [] := by unfold playL; rw [if_neg (by rw [hE]; exact hc)]
        have hd : decide (checkSlate S = 0) = false := decide_eq_false hc
        rw [hE, hp] at h52
        rw [hd, Bool.false_and] at h62
        generalize checkSlate S = e at h32 h52 h63 hc
        obtain ⟨w, es, ss⟩ := S
        obtain ⟨N, O, p, q⟩ := s
        (try simp only [go_sem, ↓reduceIte, Nat.reduceAdd, Nat.reduceEqDiff, Nat.reduceLT, Nat.reduceLeDiff, Nat.reduceBEq, Int.reduceEq, Int.reduceLT, Int.reduceLE]); (repeat ((first | simp only [h21] | rw [lt_n hn] | simp only [h24] | simp only [h31] | simp only [h52] | simp only [h62] | simp only [h63] | simp only [h32] | rw [eq_n hc] | rw [eq_y rfl] | simp only [h22] | (rw [lt_yes]; rotate_left; (first | omega | (simp [lenOf, app]; omega) | (simp only [lenOf]; omega))) | (rw [lt_no]; rotate_left; (first | omega | (simp [lenOf, app]; omega) | (simp only [lenOf]; omega))) | (rw [idxA_at]; rotate_left; (first | omega | (simp [lenOf, app]; omega) | (simp only [lenOf]; omega))) | (rw [wr_up]; rotate_left; (first | omega | (simp [lenOf, app]; omega) | (simp only [lenOf]; omega))) | ((first | rw [drop_cI] | rw [drop_cE] | rw [drop_cS] | rw [drop_cP] | rw [drop_cR]); rotate_left; assumption)); try simp only [go_sem, ↓reduceIte, Nat.reduceAdd, Nat.reduceEqDiff, Nat.reduceLT, Nat.reduceLeDiff, Nat.reduceBEq, Int.reduceEq, Int.reduceLT, Int.reduceLE]))
theorem Try_own : ownKnob Try.prog.godebug = none := by kernel_rfl
theorem plays_lifted (os : Os) (started : os.Started) (H : Type) (enc : TypeId × Value → H) :
    ReturnsInHanded {} Try.checked os 15 .any (Ytlhfeiacigmliaa.Rows.soapPlaysSpec.pre6 enc Try.prog Try.f15 Ytlhfeiacigmliaa.Rows.soapPlaysRow.domain false) (Ytlhfeiacigmliaa.Rows.soapPlaysSpec.post enc Try.prog Try.f15 false true false false) := by
  refine returnsInHanded_of_change (C := Try.checked) Try_own started (by kernel_rfl) Try.func15
    (ChangeSpec.witness6 (enc := enc) (C := Try.checked) false ⟨#[], #[.agg #[.int .i64 0, .slice none 0 0, .slice none 0 0], .slice none 0 0], []⟩ 8 (by kernel_rfl) (by kernel_rfl) (by kernel_rfl) (by kernel_rfl)) ?_
  intro W base args ds gs before hval0 hW hcnd _
  have hval : ∀ (j : Nat) t v, Try.f15.params[j]? = some t → args[j]? = some v → Value.okWide Try.prog W .any base t v := hval0
  have hW' := hW
  obtain ⟨p, q, hA0, hV, rfl, hfz, hnd⟩ := hW
  have hA : DataW.TrodAll enc Try.prog W 0 (fun _ => true) true Try.f15.params.toList args.toList ds p := hA0
  rw [Try.params15] at hA hval
  obtain ⟨v0, v1, d0, d1, p0, p1, rfl, rfl, hp, h0, h1⟩ := trodAll_two hA
  obtain ⟨rfl, rfl⟩ := trodVars_none hV
  obtain ⟨x0, r0⟩ := rel_slate (hval 0 25 v0 rfl rfl) h0
  obtain ⟨x1, r1⟩ := rel_list (hval 1 37 v1 rfl rfl) h1
  refine (sound_lim tbl_ok (k15 x0 x1 St.empty) (sim0 Try.prog W) (args' := #[v0, v1]) ⟨v0, [v1], rfl, r0, ⟨v1, [], rfl, r1, rfl⟩⟩).mono fun e W' he => ?_
  obtain ⟨v', ρ', he, hv, _, hF⟩ := he
  subst he
  have hv : v' = .bool true := hv
  subst hv
  exact ⟨_, rfl, shut_true hW' rfl rfl (by rw [Try.params15]; intro t ht; simp at ht; rcases ht with rfl | rfl <;> exact ⟨by kernel_rfl, of_decide_eq_true (by kernel_rfl)⟩) rfl rfl rfl hF⟩
theorem plays_holds : Ytlhfeiacigmliaa.Rows.SoapPlaysSaid :=
  OpenClaim.holds_of_wide 15 Try.f15 rfl rfl rfl rfl rfl rfl rfl ⟨rfl, rfl, rfl, rfl, rfl⟩ rfl rfl rfl rfl rfl (by kernel_rfl) Try.func15 (by kernel_rfl)
    (of_decide_eq_true (by kernel_rfl)) (by unfold Func.isWrapper; first | (rw [if_pos (by decide +kernel)]; kernel_rfl) | (rw [if_neg (by decide +kernel)]; exact ⟨rfl, rfl⟩))
    (fun os started H enc _ => plays_lifted os started H enc)
#print axioms plays_holds
end Go.Proofs.Ytlhfeiacigmliaa
