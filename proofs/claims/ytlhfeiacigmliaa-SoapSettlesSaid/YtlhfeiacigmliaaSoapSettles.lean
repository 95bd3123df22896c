/- The law SoapSettles answers true for every slate, list, payments and number: the payments that are returned for any ounces are the fewest that settle all, and whether any payments settle all, and are at most so many, is as the document says, or the error is. -/
import Derived.Test.YtlhfeiacigmliaaPartJ
set_option linter.all false
namespace Go.Proofs.Ytlhfeiacigmliaa
open Go Go.ChangeShapes Go.RowKit
set_option maxRecDepth 100000
set_option maxHeartbeats 4000000

theorem k17 (S : Slate) (L : List Int) (P : List Pay) (many : Int) (s : St) : lim tbl (.call 17 [vSl S, sl cI L, sl cP P, i64 many]) s = some (.ret, [.bool true], s) := by
  have h21 := fun s => k21 S s
  have h22 := fun s => k22 s
  rw [lim_call tbl_17]
  cases hT : thin S with
  | false =>
    rw [hT] at h21
    obtain ⟨w, es, ss⟩ := S
    obtain ⟨N, O, p, q⟩ := s
    (try simp only [go_sem, ↓reduceIte, Nat.reduceAdd, Nat.reduceEqDiff, Nat.reduceLT, Nat.reduceLeDiff, Nat.reduceBEq, Int.reduceEq, Int.reduceLT, Int.reduceLE]); (repeat ((first | simp only [h21] | simp only [h22] | (rw [lt_yes]; rotate_left; (first | omega | (simp [lenOf, app]; omega) | (simp only [lenOf]; omega))) | (rw [lt_no]; rotate_left; (first | omega | (simp [lenOf, app]; omega) | (simp only [lenOf]; omega))) | (rw [idxA_at]; rotate_left; (first | omega | (simp [lenOf, app]; omega) | (simp only [lenOf]; omega))) | (rw [wr_up]; rotate_left; (first | omega | (simp [lenOf, app]; omega) | (simp only [lenOf]; omega))) | ((first | rw [drop_cI] | rw [drop_cE] | rw [drop_cS] | rw [drop_cP] | rw [drop_cR]); rotate_left; assumption)); try simp only [go_sem, ↓reduceIte, Nat.reduceAdd, Nat.reduceEqDiff, Nat.reduceLT, Nat.reduceLeDiff, Nat.reduceBEq, Int.reduceEq, Int.reduceLT, Int.reduceLE]))
  | true =>
    rw [hT] at h21
    obtain ⟨hl1, hl2⟩ := thin_len hT
    by_cases hn : (9 : Int) < Int.ofNat (lenOf L)
    · obtain ⟨w, es, ss⟩ := S
      obtain ⟨N, O, p, q⟩ := s
      (try simp only [go_sem, ↓reduceIte, Nat.reduceAdd, Nat.reduceEqDiff, Nat.reduceLT, Nat.reduceLeDiff, Nat.reduceBEq, Int.reduceEq, Int.reduceLT, Int.reduceLE]); (repeat ((first | simp only [h21] | rw [lt_y hn] | simp only [h22] | (rw [lt_yes]; rotate_left; (first | omega | (simp [lenOf, app]; omega) | (simp only [lenOf]; omega))) | (rw [lt_no]; rotate_left; (first | omega | (simp [lenOf, app]; omega) | (simp only [lenOf]; omega))) | (rw [idxA_at]; rotate_left; (first | omega | (simp [lenOf, app]; omega) | (simp only [lenOf]; omega))) | (rw [wr_up]; rotate_left; (first | omega | (simp [lenOf, app]; omega) | (simp only [lenOf]; omega))) | ((first | rw [drop_cI] | rw [drop_cE] | rw [drop_cS] | rw [drop_cP] | rw [drop_cR]); rotate_left; assumption)); try simp only [go_sem, ↓reduceIte, Nat.reduceAdd, Nat.reduceEqDiff, Nat.reduceLT, Nat.reduceLeDiff, Nat.reduceBEq, Int.reduceEq, Int.reduceLT, Int.reduceLE]))
    by_cases hm : (9 : Int) < Int.ofNat (lenOf P)
    · obtain ⟨w, es, ss⟩ := S
      obtain ⟨N, O, p, q⟩ := s
      (try simp only [go_sem, ↓reduceIte, Nat.reduceAdd, Nat.reduceEqDiff, Nat.reduceLT, Nat.reduceLeDiff, Nat.reduceBEq, Int.reduceEq, Int.reduceLT, Int.reduceLE]); (repeat ((first | simp only [h21] | rw [lt_n hn] | rw [lt_y hm] | simp only [h22] | (rw [lt_yes]; rotate_left; (first | omega | (simp [lenOf, app]; omega) | (simp only [lenOf]; omega))) | (rw [lt_no]; rotate_left; (first | omega | (simp [lenOf, app]; omega) | (simp only [lenOf]; omega))) | (rw [idxA_at]; rotate_left; (first | omega | (simp [lenOf, app]; omega) | (simp only [lenOf]; omega))) | (rw [wr_up]; rotate_left; (first | omega | (simp [lenOf, app]; omega) | (simp only [lenOf]; omega))) | ((first | rw [drop_cI] | rw [drop_cE] | rw [drop_cS] | rw [drop_cP] | rw [drop_cR]); rotate_left; assumption)); try simp only [go_sem, ↓reduceIte, Nat.reduceAdd, Nat.reduceEqDiff, Nat.reduceLT, Nat.reduceLeDiff, Nat.reduceBEq, Int.reduceEq, Int.reduceLT, Int.reduceLE]))
    have hL9 : L.length ≤ 9 := by
      have h : ¬ (9 : Int) < (L.length : Int) := hn
      omega
    have hP9 : P.length ≤ 9 := by
      have h : ¬ (9 : Int) < (P.length : Int) := hm
      omega
    have h24 := fun s => k24 S (by omega) (by omega) s
    have h31 := fun s => k31 L (by omega) s
    have h53 := fun s => k53 S L s
    have h68 := fun s => k68 P (by omega) s
    have h67 := fun s => k67 S L P many (by omega) s
    have h32 := fun s => k32 S s
    rw [fault_eq] at h32
    have h33 := fun s => k33 S L (by omega) s
    by_cases hc : checkSlate S = 0
    · have hG := good_of_check hc
      have hw0 := hG.w0
      have hw6 := hG.w6
      rw [hc] at h32
      cases ha : areOz S.es L with
      | false =>
        have hE : playErr S L = 2 := by unfold playErr; rw [if_neg (by simp [hc]), ha]; rfl
        have hp : settleP S L = [] := by unfold settleP; rw [if_neg (by rw [hE]; decide)]
        rw [hE, hp] at h53
        rw [ha] at h33
        rw [prove_no (Or.inl (by rw [hE]; decide))] at h67
        obtain ⟨w, es, ss⟩ := S
        obtain ⟨N, O, p, q⟩ := s
        (try simp only [go_sem, ↓reduceIte, Nat.reduceAdd, Nat.reduceEqDiff, Nat.reduceLT, Nat.reduceLeDiff, Nat.reduceBEq, Int.reduceEq, Int.reduceLT, Int.reduceLE]); (repeat ((first | simp only [h21] | rw [lt_n hn] | rw [lt_n hm] | simp only [h24] | simp only [h31] | simp only [h53] | simp only [h68] | simp only [h67] | simp only [h32] | simp only [h33] | simp only [h22] | (rw [lt_yes]; rotate_left; (first | omega | (simp [lenOf, app]; omega) | (simp only [lenOf]; omega))) | (rw [lt_no]; rotate_left; (first | omega | (simp [lenOf, app]; omega) | (simp only [lenOf]; omega))) | (rw [idxA_at]; rotate_left; (first | omega | (simp [lenOf, app]; omega) | (simp only [lenOf]; omega))) | (rw [wr_up]; rotate_left; (first | omega | (simp [lenOf, app]; omega) | (simp only [lenOf]; omega))) | ((first | rw [drop_cI] | rw [drop_cE] | rw [drop_cS] | rw [drop_cP] | rw [drop_cR]); rotate_left; assumption)); try simp only [go_sem, ↓reduceIte, Nat.reduceAdd, Nat.reduceEqDiff, Nat.reduceLT, Nat.reduceLeDiff, Nat.reduceBEq, Int.reduceEq, Int.reduceLT, Int.reduceLE]))
      | true =>
        obtain ⟨hE, ho, _⟩ := play_facts hc ha
        have hl := areOz_len ha
        obtain ⟨p1, p2, p3, _⟩ := settle_facts hc ha
        have p6 := settle_len hc ha
        have hAs : allB (payOk S.women) (settleP S L) = true := by
          unfold allB; rw [List.all_eq_true]
          exact fun x hx => (payOk_iff hG.w0 hG.w6).2 (p1 x hx)
        have hSs : settlesR S L (settleP S L) = true := (settles_iff hc ha (by omega) p1).2 p2
        have h49 := fun s => k49 S L hw0 hw6 (by omega) hl s
        have h55 := fun s => k55b S P (by omega) s
        have h69 := fun s => k69 S L P hw0 hw6 (by omega) hl (by omega) s
        have g56 := fun s => k56 (settleP S L) (by omega) s
        have g55 := fun s => k55b S (settleP S L) (by omega) s
        have g69 := fun s => k69 S L (settleP S L) hw0 hw6 (by omega) hl (by omega) s
        rw [hAs] at g55
        rw [hSs] at g69
        rw [hE] at h53
        rw [ha] at h33
        have hpl : Int.ofNat (lenOf (settleP S L)) = payR S L := p3
        generalize settleP S L = V at h53 g56 g55 g69 hpl
        generalize payR S L = M at h49 hpl
        have hpr : proveS S L P many = (decide (Int.ofNat (lenOf P) ≤ many) && (allB (payOk S.women) P && settlesR S L P)) := by
          cases hb : allB (payOk S.women) P with
          | false => rw [prove_no (Or.inr hb)]; simp
          | true =>
            rw [Bool.true_and]
            refine prove_eq hc ha (by omega) (fun x hx => (payOk_iff hG.w0 hG.w6).1 ?_) many
            unfold allB at hb; rw [List.all_eq_true] at hb; exact hb x hx
        rw [hpr] at h67
        by_cases hle : Int.ofNat (lenOf P) ≤ many
        · rw [decide_eq_true hle] at h67
          cases hb : allB (payOk S.women) P with
          | false =>
            rw [hb] at h67 h55
            simp only [Bool.true_and, Bool.false_and] at h67
            obtain ⟨w, es, ss⟩ := S
            obtain ⟨N, O, p, q⟩ := s
            (try simp only [go_sem, ↓reduceIte, Nat.reduceAdd, Nat.reduceEqDiff, Nat.reduceLT, Nat.reduceLeDiff, Nat.reduceBEq, Int.reduceEq, Int.reduceLT, Int.reduceLE]); (repeat ((first | simp only [h21] | rw [lt_n hn] | rw [lt_n hm] | simp only [h24] | simp only [h31] | simp only [h53] | simp only [h68] | simp only [h67] | simp only [h32] | simp only [h33] | rw [le_y hle] | simp only [h55] | simp only [h49] | rw [eq_y hpl] | simp only [g56] | simp only [g55] | simp only [g69] | simp only [h22] | (rw [lt_yes]; rotate_left; (first | omega | (simp [lenOf, app]; omega) | (simp only [lenOf]; omega))) | (rw [lt_no]; rotate_left; (first | omega | (simp [lenOf, app]; omega) | (simp only [lenOf]; omega))) | (rw [idxA_at]; rotate_left; (first | omega | (simp [lenOf, app]; omega) | (simp only [lenOf]; omega))) | (rw [wr_up]; rotate_left; (first | omega | (simp [lenOf, app]; omega) | (simp only [lenOf]; omega))) | ((first | rw [drop_cI] | rw [drop_cE] | rw [drop_cS] | rw [drop_cP] | rw [drop_cR]); rotate_left; assumption)); try simp only [go_sem, ↓reduceIte, Nat.reduceAdd, Nat.reduceEqDiff, Nat.reduceLT, Nat.reduceLeDiff, Nat.reduceBEq, Int.reduceEq, Int.reduceLT, Int.reduceLE]))
          | true =>
            rw [hb] at h67 h55
            cases hb2 : settlesR S L P with
            | false =>
              rw [hb2] at h67 h69
              simp only [Bool.true_and] at h67
              obtain ⟨w, es, ss⟩ := S
              obtain ⟨N, O, p, q⟩ := s
              (try simp only [go_sem, ↓reduceIte, Nat.reduceAdd, Nat.reduceEqDiff, Nat.reduceLT, Nat.reduceLeDiff, Nat.reduceBEq, Int.reduceEq, Int.reduceLT, Int.reduceLE]); (repeat ((first | simp only [h21] | rw [lt_n hn] | rw [lt_n hm] | simp only [h24] | simp only [h31] | simp only [h53] | simp only [h68] | simp only [h67] | simp only [h32] | simp only [h33] | rw [le_y hle] | simp only [h55] | simp only [h69] | simp only [h49] | rw [eq_y hpl] | simp only [g56] | simp only [g55] | simp only [g69] | simp only [h22] | (rw [lt_yes]; rotate_left; (first | omega | (simp [lenOf, app]; omega) | (simp only [lenOf]; omega))) | (rw [lt_no]; rotate_left; (first | omega | (simp [lenOf, app]; omega) | (simp only [lenOf]; omega))) | (rw [idxA_at]; rotate_left; (first | omega | (simp [lenOf, app]; omega) | (simp only [lenOf]; omega))) | (rw [wr_up]; rotate_left; (first | omega | (simp [lenOf, app]; omega) | (simp only [lenOf]; omega))) | ((first | rw [drop_cI] | rw [drop_cE] | rw [drop_cS] | rw [drop_cP] | rw [drop_cR]); rotate_left; assumption)); try simp only [go_sem, ↓reduceIte, Nat.reduceAdd, Nat.reduceEqDiff, Nat.reduceLT, Nat.reduceLeDiff, Nat.reduceBEq, Int.reduceEq, Int.reduceLT, Int.reduceLE]))
            | true =>
              rw [hb2] at h67 h69
              simp only [Bool.true_and] at h67
              obtain ⟨w, es, ss⟩ := S
              obtain ⟨N, O, p, q⟩ := s
              (try simp only [go_sem, ↓reduceIte, Nat.reduceAdd, Nat.reduceEqDiff, Nat.reduceLT, Nat.reduceLeDiff, Nat.reduceBEq, Int.reduceEq, Int.reduceLT, Int.reduceLE]); (repeat ((first | simp only [h21] | rw [lt_n hn] | rw [lt_n hm] | simp only [h24] | simp only [h31] | simp only [h53] | simp only [h68] | simp only [h67] | simp only [h32] | simp only [h33] | rw [le_y hle] | simp only [h55] | simp only [h69] | simp only [h49] | rw [eq_y hpl] | simp only [g56] | simp only [g55] | simp only [g69] | simp only [h22] | (rw [lt_yes]; rotate_left; (first | omega | (simp [lenOf, app]; omega) | (simp only [lenOf]; omega))) | (rw [lt_no]; rotate_left; (first | omega | (simp [lenOf, app]; omega) | (simp only [lenOf]; omega))) | (rw [idxA_at]; rotate_left; (first | omega | (simp [lenOf, app]; omega) | (simp only [lenOf]; omega))) | (rw [wr_up]; rotate_left; (first | omega | (simp [lenOf, app]; omega) | (simp only [lenOf]; omega))) | ((first | rw [drop_cI] | rw [drop_cE] | rw [drop_cS] | rw [drop_cP] | rw [drop_cR]); rotate_left; assumption)); try simp only [go_sem, ↓reduceIte, Nat.reduceAdd, Nat.reduceEqDiff, Nat.reduceLT, Nat.reduceLeDiff, Nat.reduceBEq, Int.reduceEq, Int.reduceLT, Int.reduceLE]))
        · rw [decide_eq_false hle] at h67
          simp only [Bool.false_and] at h67
          obtain ⟨w, es, ss⟩ := S
          obtain ⟨N, O, p, q⟩ := s
          (try simp only [go_sem, ↓reduceIte, Nat.reduceAdd, Nat.reduceEqDiff, Nat.reduceLT, Nat.reduceLeDiff, Nat.reduceBEq, Int.reduceEq, Int.reduceLT, Int.reduceLE]); (repeat ((first | simp only [h21] | rw [lt_n hn] | rw [lt_n hm] | simp only [h24] | simp only [h31] | simp only [h53] | simp only [h68] | simp only [h67] | simp only [h32] | simp only [h33] | rw [le_n hle] | simp only [h49] | rw [eq_y hpl] | simp only [g56] | simp only [g55] | simp only [g69] | simp only [h22] | (rw [lt_yes]; rotate_left; (first | omega | (simp [lenOf, app]; omega) | (simp only [lenOf]; omega))) | (rw [lt_no]; rotate_left; (first | omega | (simp [lenOf, app]; omega) | (simp only [lenOf]; omega))) | (rw [idxA_at]; rotate_left; (first | omega | (simp [lenOf, app]; omega) | (simp only [lenOf]; omega))) | (rw [wr_up]; rotate_left; (first | omega | (simp [lenOf, app]; omega) | (simp only [lenOf]; omega))) | ((first | rw [drop_cI] | rw [drop_cE] | rw [drop_cS] | rw [drop_cP] | rw [drop_cR]); rotate_left; assumption)); try simp only [go_sem, ↓reduceIte, Nat.reduceAdd, Nat.reduceEqDiff, Nat.reduceLT, Nat.reduceLeDiff, Nat.reduceBEq, Int.reduceEq, Int.reduceLT, Int.reduceLE]))
    · have hE : playErr S L = checkSlate S := by unfold playErr; rw [if_pos hc]
      have hp : settleP S L = [] := by unfold settleP; rw [if_neg (by rw [hE]; exact hc)]
      rw [hE, hp] at h53
      rw [prove_no (Or.inl (by rw [hE]; exact hc))] at h67
      generalize checkSlate S = e at h32 h53 hc
      obtain ⟨w, es, ss⟩ := S
      obtain ⟨N, O, p, q⟩ := s
      (try simp only [go_sem, ↓reduceIte, Nat.reduceAdd, Nat.reduceEqDiff, Nat.reduceLT, Nat.reduceLeDiff, Nat.reduceBEq, Int.reduceEq, Int.reduceLT, Int.reduceLE]); (repeat ((first | simp only [h21] | rw [lt_n hn] | rw [lt_n hm] | simp only [h24] | simp only [h31] | simp only [h53] | simp only [h68] | simp only [h67] | simp only [h32] | rw [eq_n hc] | rw [eq_y rfl] | simp only [h22] | (rw [lt_yes]; rotate_left; (first | omega | (simp [lenOf, app]; omega) | (simp only [lenOf]; omega))) | (rw [lt_no]; rotate_left; (first | omega | (simp [lenOf, app]; omega) | (simp only [lenOf]; omega))) | (rw [idxA_at]; rotate_left; (first | omega | (simp [lenOf, app]; omega) | (simp only [lenOf]; omega))) | (rw [wr_up]; rotate_left; (first | omega | (simp [lenOf, app]; omega) | (simp only [lenOf]; omega))) | ((first | rw [drop_cI] | rw [drop_cE] | rw [drop_cS] | rw [drop_cP] | rw [drop_cR]); rotate_left; assumption)); try simp only [go_sem, ↓reduceIte, Nat.reduceAdd, Nat.reduceEqDiff, Nat.reduceLT, Nat.reduceLeDiff, Nat.reduceBEq, Int.reduceEq, Int.reduceLT, Int.reduceLE]))
theorem Try_own : ownKnob Try.prog.godebug = none := by kernel_rfl
theorem settles_lifted (os : Os) (started : os.Started) (H : Type) (enc : TypeId × Value → H) :
    ReturnsInHanded {} Try.checked os 17 .any (Ytlhfeiacigmliaa.Rows.soapSettlesSpec.pre6 enc Try.prog Try.f17 Ytlhfeiacigmliaa.Rows.soapSettlesRow.domain false) (Ytlhfeiacigmliaa.Rows.soapSettlesSpec.post enc Try.prog Try.f17 false true false false) := by
  refine returnsInHanded_of_change (C := Try.checked) Try_own started (by kernel_rfl) Try.func17
    (ChangeSpec.witness6 (enc := enc) (C := Try.checked) false ⟨#[], #[.agg #[.int .i64 0, .slice none 0 0, .slice none 0 0], .slice none 0 0, .slice none 0 0, .int .i64 0], []⟩ 8 (by kernel_rfl) (by kernel_rfl) (by kernel_rfl) (by kernel_rfl)) ?_
  intro W base args ds gs before hval0 hW hcnd _
  have hval : ∀ (j : Nat) t v, Try.f17.params[j]? = some t → args[j]? = some v → Value.okWide Try.prog W .any base t v := hval0
  have hW' := hW
  obtain ⟨p, q, hA0, hV, rfl, hfz, hnd⟩ := hW
  have hA : DataW.TrodAll enc Try.prog W 0 (fun _ => true) true Try.f17.params.toList args.toList ds p := hA0
  rw [Try.params17] at hA hval
  obtain ⟨v0, v1, v2, v3, d0, d1, d2, d3, p0, p1, p2, p3, rfl, rfl, hp, h0, h1, h2, h3⟩ := trodAll_four hA
  obtain ⟨rfl, rfl⟩ := trodVars_none hV
  obtain ⟨x0, r0⟩ := rel_slate (hval 0 25 v0 rfl rfl) h0
  obtain ⟨x1, r1⟩ := rel_list (hval 1 37 v1 rfl rfl) h1
  obtain ⟨x2, r2⟩ := rel_pays (hval 2 82 v2 rfl rfl) h2
  obtain ⟨x3, r3⟩ := rel_i64 (hval 3 3 v3 rfl rfl) h3
  refine (sound_lim tbl_ok (k17 x0 x1 x2 x3 St.empty) (sim0 Try.prog W) (args' := #[v0, v1, v2, v3]) ⟨v0, [v1, v2, v3], rfl, r0, ⟨v1, [v2, v3], rfl, r1, ⟨v2, [v3], rfl, r2, ⟨v3, [], rfl, r3, rfl⟩⟩⟩⟩).mono fun e W' he => ?_
  obtain ⟨v', ρ', he, hv, _, hF⟩ := he
  subst he
  have hv : v' = .bool true := hv
  subst hv
  exact ⟨_, rfl, shut_true hW' rfl rfl (by rw [Try.params17]; intro t ht; simp at ht; rcases ht with rfl | rfl | rfl | rfl <;> exact ⟨by kernel_rfl, of_decide_eq_true (by kernel_rfl)⟩) rfl rfl rfl hF⟩
theorem settles_holds : Ytlhfeiacigmliaa.Rows.SoapSettlesSaid :=
  OpenClaim.holds_of_wide 17 Try.f17 rfl rfl rfl rfl rfl rfl rfl ⟨rfl, rfl, rfl, rfl, rfl⟩ rfl rfl rfl rfl rfl (by kernel_rfl) Try.func17 (by kernel_rfl)
    (of_decide_eq_true (by kernel_rfl)) (by unfold Func.isWrapper; first | (rw [if_pos (by decide +kernel)]; kernel_rfl) | (rw [if_neg (by decide +kernel)]; exact ⟨rfl, rfl⟩))
    (fun os started H enc _ => settles_lifted os started H enc)
#print axioms settles_holds
end Go.Proofs.Ytlhfeiacigmliaa
