/- The law SoapPaid answers true for every slate and numbers: if one of the payments that are returned is added as an entry, one payment fewer settles all. -/
import Derived.Test.YtlhfeiacigmliaaPartI
set_option linter.all false
namespace Go.Proofs.Ytlhfeiacigmliaa
open Go Go.ChangeShapes Go.RowKit
set_option maxRecDepth 100000
set_option maxHeartbeats 4000000

/-- One more element behind a copy. -/
theorem append_copy2 {α : Type} {f : α → List AVal} {sz : Nat} (hf : ∀ a, (f a).length = sz) (bytes : Nat) (p : Nat) (q : Nat → Nat) (N : Nat) (O : List AObj) (l : List α) (a : α) (cs : List AVal) (hcs : cs = f a) (perm : Perm) (h : (l.length + 1) * bytes ≤ 140737488355328) (h' : l.length + 1 ≤ 140737488355328) :
    appendA sz bytes (copySl f p l) (.vsl cs 1 perm) ⟨N, O, roomP p (lenOf l), roomC p q (lenOf l)⟩ = some (ownSl f p (app l [a]), ⟨N, O, roomP p (lenOf (app l [a])), roomC p q (lenOf (app l [a]))⟩) := by
  by_cases h0 : l.length = 0
  · have hl := List.length_eq_zero_iff.mp h0
    subst hl hcs
    have hl := hf a
    simp only [List.length_nil, Nat.zero_add] at h h'
    simp [appendA, elemsA, copySl, ownSl, roomP, roomC, lenOf, app, hl, h, h', cells_cons, cells_nil, St.fresh]
    omega
  · have hc : copySl f p l = ownSl f p l := by unfold copySl ownSl; rw [if_neg h0, if_neg h0]
    rw [hc]
    exact append_own hf bytes p q N O l a cs hcs perm h h'
theorem lim_norms4 {k sz : Nat} {F : AFun} {args args' : List AVal} (h : tbl k = some F) (hg : F.gc = some sz) (he : norms args = norms args') (s : St) : lim tbl (.call k args) s = lim tbl (.call k args') s := by
  have hl : args.length = args'.length := by have := congrArg List.length he; rwa [norms_length, norms_length] at this
  rw [lim_call h, lim_call h, hg, frameV_some, frameV_some, he]
theorem k9 (S : Slate) (t : Nat) (ht : t < 65536) (u : Nat) (hu : u < 256) (s : St) : lim tbl (.call 9 [vSl S, .int .u16 (Int.ofNat t), .int .u8 (Int.ofNat u)]) s = some (.ret, [.bool true], s) := by
  have h46 := fun s => k46 S s
  have h22 := fun s => k22 s
  rw [lim_call tbl_9]
  cases hT : readyS S with
  | false =>
    rw [hT] at h46
    obtain ⟨w, es, ss⟩ := S
    obtain ⟨N, O, p, q⟩ := s
    (try simp only [go_sem, ↓reduceIte, Nat.reduceAdd, Nat.reduceEqDiff, Nat.reduceLT, Nat.reduceLeDiff, Nat.reduceBEq, Int.reduceEq, Int.reduceLT, Int.reduceLE]); (repeat ((first | simp only [h46] | simp only [h22] | (rw [lt_yes]; rotate_left; (first | omega | (simp [lenOf, app]; omega) | (simp only [lenOf]; omega))) | (rw [lt_no]; rotate_left; (first | omega | (simp [lenOf, app]; omega) | (simp only [lenOf]; omega))) | (rw [idxA_at]; rotate_left; (first | omega | (simp [lenOf, app]; omega) | (simp only [lenOf]; omega))) | (rw [wr_up]; rotate_left; (first | omega | (simp [lenOf, app]; omega) | (simp only [lenOf]; omega))) | ((first | rw [drop_cI] | rw [drop_cE] | rw [drop_cS] | rw [drop_cP] | rw [drop_cR]); rotate_left; assumption)); try simp only [go_sem, ↓reduceIte, Nat.reduceAdd, Nat.reduceEqDiff, Nat.reduceLT, Nat.reduceLeDiff, Nat.reduceBEq, Int.reduceEq, Int.reduceLT, Int.reduceLE]))
  | true =>
    rw [hT] at h46
    by_cases h5 : (5 : Int) < Int.ofNat (lenOf S.es)
    · obtain ⟨w, es, ss⟩ := S
      obtain ⟨N, O, p, q⟩ := s
      simp only at h5
      (try simp only [go_sem, ↓reduceIte, Nat.reduceAdd, Nat.reduceEqDiff, Nat.reduceLT, Nat.reduceLeDiff, Nat.reduceBEq, Int.reduceEq, Int.reduceLT, Int.reduceLE]); (repeat ((first | simp only [h46] | rw [lt_y h5] | simp only [h22] | (rw [lt_yes]; rotate_left; (first | omega | (simp [lenOf, app]; omega) | (simp only [lenOf]; omega))) | (rw [lt_no]; rotate_left; (first | omega | (simp [lenOf, app]; omega) | (simp only [lenOf]; omega))) | (rw [idxA_at]; rotate_left; (first | omega | (simp [lenOf, app]; omega) | (simp only [lenOf]; omega))) | (rw [wr_up]; rotate_left; (first | omega | (simp [lenOf, app]; omega) | (simp only [lenOf]; omega))) | ((first | rw [drop_cI] | rw [drop_cE] | rw [drop_cS] | rw [drop_cP] | rw [drop_cR]); rotate_left; assumption)); try simp only [go_sem, ↓reduceIte, Nat.reduceAdd, Nat.reduceEqDiff, Nat.reduceLT, Nat.reduceLeDiff, Nat.reduceBEq, Int.reduceEq, Int.reduceLT, Int.reduceLE]))
    have h5' : S.es.length ≤ 5 := by
      have h : ¬ (5 : Int) < (S.es.length : Int) := h5
      omega
    obtain ⟨hc, hT1⟩ := ready_inv hT
    obtain ⟨hl1, hl2⟩ := thin_len hT1
    have hG := good_of_check hc
    have hw0 := hG.w0
    have hw6 := hG.w6
    have s5 := hG.s5
    obtain ⟨hm, hM⟩ := many_of_check hc
    have h51 := fun s => k51 S (by omega) s
    rw [hM] at h51
    have hpos := prodN_pos hG.oe
    have hwt : wr .i64 (Int.ofNat t) = Int.ofNat t := wr_nat (by omega)
    have hwu : wr .i64 (Int.ofNat u) = Int.ofNat u := wr_nat (by omega)
    have hrem : remI (Int.ofNat t) (Int.ofNat (prodN S.es)) = some (i64 (Int.ofNat (bmod t (prodN S.es)))) := rem_at (by omega)
    have hbm : bmod t (prodN S.es) < prodN S.es := Nat.mod_lt _ hpos
    generalize prodN S.es = M at h51 hrem hm hbm
    have h50 := fun s => k50 S (bmod t M) (by omega) hG.oe (by omega) s
    have ha := nth_areOz hG.oe (bmod t M)
    generalize bmod t M = v at hrem h50 ha
    have hLl := areOz_len ha
    generalize nthRef S.es v = L at h50 ha hLl
    obtain ⟨hE, ho, hp⟩ := play_facts hc ha
    obtain ⟨p1, p2, p3, p4⟩ := settle_facts hc ha
    have p6 := settle_len hc ha
    have hAs : allB (payOk S.women) (settleP S L) = true := by
      unfold allB; rw [List.all_eq_true]
      exact fun x hx => (payOk_iff hG.w0 hG.w6).2 (p1 x hx)
    have h24 := fun s => k24 S (by omega) (by omega) s
    have h31 := fun s => k31 L (by omega) s
    have h53 := fun s => k53 S L s
    have h56 := fun s => k56 (settleP S L) (by omega) s
    have h55 := fun s => k55b S (settleP S L) (by omega) s
    rw [hAs] at h55
    rw [hE] at h53
    by_cases hz : Int.ofNat (lenOf (settleP S L)) = 0
    · generalize settleP S L = P at h53 hz
      obtain ⟨w, es, ss⟩ := S
      obtain ⟨N, O, p, q⟩ := s
      (try simp only [go_sem, ↓reduceIte, Nat.reduceAdd, Nat.reduceEqDiff, Nat.reduceLT, Nat.reduceLeDiff, Nat.reduceBEq, Int.reduceEq, Int.reduceLT, Int.reduceLE]); (repeat ((first | simp only [h46] | rw [lt_n h5] | simp only [h51] | rw [hwt] | rw [hrem] | simp only [h50] | simp only [h24] | simp only [h31] | simp only [h53] | rw [eq_y rfl] | rw [eq_y hz] | simp only [h22] | (rw [lt_yes]; rotate_left; (first | omega | (simp [lenOf, app]; omega) | (simp only [lenOf]; omega))) | (rw [lt_no]; rotate_left; (first | omega | (simp [lenOf, app]; omega) | (simp only [lenOf]; omega))) | (rw [idxA_at]; rotate_left; (first | omega | (simp [lenOf, app]; omega) | (simp only [lenOf]; omega))) | (rw [wr_up]; rotate_left; (first | omega | (simp [lenOf, app]; omega) | (simp only [lenOf]; omega))) | ((first | rw [drop_cI] | rw [drop_cE] | rw [drop_cS] | rw [drop_cP] | rw [drop_cR]); rotate_left; assumption)); try simp only [go_sem, ↓reduceIte, Nat.reduceAdd, Nat.reduceEqDiff, Nat.reduceLT, Nat.reduceLeDiff, Nat.reduceBEq, Int.reduceEq, Int.reduceLT, Int.reduceLE]))
    have hz' : (settleP S L).length ≠ 0 := fun h => hz (by unfold lenOf; rw [h]; rfl)
    have hr2 : remI (Int.ofNat u) (Int.ofNat (lenOf (settleP S L))) = some (i64 (Int.ofNat (bmod u (settleP S L).length))) := rem_at hz'
    have hb2 : bmod u (settleP S L).length < (settleP S L).length := Nat.mod_lt _ (by omega)
    obtain ⟨x, hx⟩ : ∃ x, (settleP S L)[bmod u (settleP S L).length]? = some x := ⟨_, List.getElem?_eq_getElem hb2⟩
    have hxm := List.mem_of_getElem? hx
    have hix : idxA (i64 (Int.ofNat (bmod u (settleP S L).length))) (lenOf (settleP S L)) = some (bmod u (settleP S L).length) := idxA_at hb2
    by_cases h40 : (40 : Int) < x.oz
    · obtain ⟨xf, xt, z⟩ := x
      simp only at h40
      have hdx := drop_cP hx
      generalize bmod u (settleP S L).length = b at hr2 hix hdx
      generalize settleP S L = P at h53 hz h56 h55 hr2 hix hdx
      obtain ⟨w, es, ss⟩ := S
      obtain ⟨N, O, p, q⟩ := s
      (try simp only [go_sem, ↓reduceIte, Nat.reduceAdd, Nat.reduceEqDiff, Nat.reduceLT, Nat.reduceLeDiff, Nat.reduceBEq, Int.reduceEq, Int.reduceLT, Int.reduceLE]); (repeat ((first | simp only [h46] | rw [lt_n h5] | simp only [h51] | rw [hwt] | rw [hrem] | simp only [h50] | simp only [h24] | simp only [h31] | simp only [h53] | rw [eq_n hz] | rw [hwu] | rw [hr2] | rw [hix] | rw [hdx] | simp only [h56] | simp only [h55] | rw [lt_y h40] | simp only [h22] | (rw [lt_yes]; rotate_left; (first | omega | (simp [lenOf, app]; omega) | (simp only [lenOf]; omega))) | (rw [lt_no]; rotate_left; (first | omega | (simp [lenOf, app]; omega) | (simp only [lenOf]; omega))) | (rw [idxA_at]; rotate_left; (first | omega | (simp [lenOf, app]; omega) | (simp only [lenOf]; omega))) | (rw [wr_up]; rotate_left; (first | omega | (simp [lenOf, app]; omega) | (simp only [lenOf]; omega))) | ((first | rw [drop_cI] | rw [drop_cE] | rw [drop_cS] | rw [drop_cP] | rw [drop_cR]); rotate_left; assumption)); try simp only [go_sem, ↓reduceIte, Nat.reduceAdd, Nat.reduceEqDiff, Nat.reduceLT, Nat.reduceLeDiff, Nat.reduceBEq, Int.reduceEq, Int.reduceLT, Int.reduceLE]))
    obtain ⟨y1, y2, y3⟩ := paid_law hc ha h5' hxm (by omega)
    obtain ⟨hEY, _, _⟩ := play_facts y1 y2
    have g24 : ∀ s, lim tbl (.call 24 [vSl ⟨S.women, app S.es [⟨x.fr, x.to, ⟨x.oz, x.oz⟩⟩], S.ss⟩]) s = _ := fun s => k24 (addPay S x) (by simp [addPay]; omega) (by simp [addPay]; omega) s
    have g53 : ∀ s, lim tbl (.call 53 [vSl ⟨S.women, app S.es [⟨x.fr, x.to, ⟨x.oz, x.oz⟩⟩], S.ss⟩, sl cI (app L [x.oz])]) s = _ := fun s => k53 (addPay S x) (L ++ [x.oz]) s
    rw [hEY] at g53
    change ∀ s, _ = some (_, [vSl ⟨S.women, app S.es [⟨x.fr, x.to, ⟨x.oz, x.oz⟩⟩], S.ss⟩], s) at g24
    have hq1 : Int.ofNat (lenOf (settleP (addPay S x) (L ++ [x.oz]))) = wr .i64 (Int.sub (Int.ofNat (lenOf (settleP S L))) 1) := by
      unfold lenOf
      rw [fold_sub, wr_in] <;> simp only [Int.ofNat_eq_natCast] <;> omega
    generalize settleP (addPay S x) (L ++ [x.oz]) = Q at g53 hq1
    obtain ⟨xf, xt, z⟩ := x
    have hdx := drop_cP hx
    simp only at g24 g53 h40
    obtain ⟨N, O, p, q⟩ := s
    have hE6 : S.es.length ≤ 6 := by omega
    generalize bmod u (settleP S L).length = b at hr2 hix hdx
    generalize settleP S L = P at h53 hz h56 h55 hr2 hix hdx hq1
    obtain ⟨w, es, ss⟩ := S
    simp only at g24 g53 hE6 hLl h5
    have a1 := fun N O => append_copy (f := cE) (sz := 4) (fun _ => rfl) 32 p q N O es (by omega) (by omega)
    have a2 := fun N O => append_copy2 (f := cE) (sz := 4) (fun _ => rfl) 32 p q N O es ⟨xf, xt, ⟨z, z⟩⟩ [i64 xf, i64 xt, i64 z, i64 z] rfl .full (by omega) (by omega)
    generalize hA : app es [⟨xf, xt, ⟨z, z⟩⟩] = A at a2 g24 g53
    have n24 : ∀ s, lim tbl (.call 24 [.agg [i64 w, ownSl cE p A, sl cS ss]]) s = some (.ret, [vSl ⟨w, A, ss⟩], s) := fun s =>
      (lim_norms4 (args' := [vSl ⟨w, A, ss⟩]) tbl_24 rfl (by simp only [norms_cons, norm_agg, norm_own_cE, vSl, norm_vsl, norms_cE, norms_cS, sl]) s).trans (g24 s)
    have hL6 : L.length < 1000000 := by omega
    have a3 := fun N O => k31v1 L hL6 N O (roomP p (lenOf A)) (roomC p q (lenOf A))
    have a4 := fun N O => append_copy2 (f := cI) (sz := 1) (fun _ => rfl) 8 (roomP p (lenOf A)) (roomC p q (lenOf A)) N O L z [i64 z] rfl .full (by omega) (by omega)
    generalize hB : app L [z] = B at a4 g53
    have n53 : ∀ s r, lim tbl (.call 53 [vSl ⟨w, A, ss⟩, ownSl cI r B]) s = some (.ret, [.tup [sl cP Q, i64 0]], s) := fun s r =>
      (lim_norms4 (args' := [vSl ⟨w, A, ss⟩, sl cI B]) tbl_53 rfl (by simp only [norms_cons, norm_own_cI, sl, norm_vsl, norms_cI]) s).trans (g53 s)
    have hS6 : ss.length < 1000000 := by simp only at s5; omega
    (try simp only [go_sem, ↓reduceIte, Nat.reduceAdd, Nat.reduceEqDiff, Nat.reduceLT, Nat.reduceLeDiff, Nat.reduceBEq, Int.reduceEq, Int.reduceLT, Int.reduceLE]); (repeat ((first | simp only [h46] | rw [lt_n h5] | simp only [h51] | rw [hwt] | rw [hrem] | simp only [h50] | simp only [h24] | simp only [h31] | simp only [h53] | rw [eq_n hz] | rw [hwu] | rw [hr2] | rw [hix] | rw [hdx] | simp only [h56] | simp only [h55] | rw [lt_n h40] | rw [a1] | rw [a2] | simp only [n24] | rw [a3] | rw [a4] | simp only [n53] | rw [eq_y hq1] | simp only [h22] | (rw [lt_yes]; rotate_left; (first | omega | (simp [lenOf, app]; omega) | (simp only [lenOf]; omega))) | (rw [lt_no]; rotate_left; (first | omega | (simp [lenOf, app]; omega) | (simp only [lenOf]; omega))) | (rw [idxA_at]; rotate_left; (first | omega | (simp [lenOf, app]; omega) | (simp only [lenOf]; omega))) | (rw [wr_up]; rotate_left; (first | omega | (simp [lenOf, app]; omega) | (simp only [lenOf]; omega))) | ((first | rw [drop_cI] | rw [drop_cE] | rw [drop_cS] | rw [drop_cP] | rw [drop_cR]); rotate_left; assumption)); try simp only [go_sem, ↓reduceIte, Nat.reduceAdd, Nat.reduceEqDiff, Nat.reduceLT, Nat.reduceLeDiff, Nat.reduceBEq, Int.reduceEq, Int.reduceLT, Int.reduceLE]))
theorem Try_own : ownKnob Try.prog.godebug = none := by kernel_rfl
theorem paid_lifted (os : Os) (started : os.Started) (H : Type) (enc : TypeId × Value → H) :
    ReturnsInHanded {} Try.checked os 9 .any (Ytlhfeiacigmliaa.Rows.soapPaidSpec.pre6 enc Try.prog Try.f9 Ytlhfeiacigmliaa.Rows.soapPaidRow.domain false) (Ytlhfeiacigmliaa.Rows.soapPaidSpec.post enc Try.prog Try.f9 false true false false) := by
  refine returnsInHanded_of_change (C := Try.checked) Try_own started (by kernel_rfl) Try.func9
    (ChangeSpec.witness6 (enc := enc) (C := Try.checked) false ⟨#[], #[.agg #[.int .i64 0, .slice none 0 0, .slice none 0 0], .int .u16 0, .int .u8 0], []⟩ 8 (by kernel_rfl) (by kernel_rfl) (by kernel_rfl) (by kernel_rfl)) ?_
  intro W base args ds gs before hval0 hW hcnd _
  have hval : ∀ (j : Nat) t v, Try.f9.params[j]? = some t → args[j]? = some v → Value.okWide Try.prog W .any base t v := hval0
  have hW' := hW
  obtain ⟨p, q, hA0, hV, rfl, hfz, hnd⟩ := hW
  have hA : DataW.TrodAll enc Try.prog W 0 (fun _ => true) true Try.f9.params.toList args.toList ds p := hA0
  rw [Try.params9] at hA hval
  obtain ⟨v0, v1, v2, d0, d1, d2, p0, p1, p2, rfl, rfl, hp, h0, h1, h2⟩ := trodAll_three hA
  obtain ⟨rfl, rfl⟩ := trodVars_none hV
  obtain ⟨x0, r0⟩ := rel_slate (hval 0 25 v0 rfl rfl) h0
  obtain ⟨x1, l1, r1⟩ := rel_u16 (hval 1 69 v1 rfl rfl) h1
  obtain ⟨x2, l2, r2⟩ := rel_u8 (hval 2 5 v2 rfl rfl) h2
  refine (sound_lim tbl_ok (k9 x0 x1 l1 x2 l2 St.empty) (sim0 Try.prog W) (args' := #[v0, v1, v2]) ⟨v0, [v1, v2], rfl, r0, ⟨v1, [v2], rfl, r1, ⟨v2, [], rfl, r2, rfl⟩⟩⟩).mono fun e W' he => ?_
  obtain ⟨v', ρ', he, hv, _, hF⟩ := he
  subst he
  have hv : v' = .bool true := hv
  subst hv
  exact ⟨_, rfl, shut_true hW' rfl rfl (by rw [Try.params9]; intro t ht; simp at ht; rcases ht with rfl | rfl | rfl <;> exact ⟨by kernel_rfl, of_decide_eq_true (by kernel_rfl)⟩) rfl rfl rfl hF⟩
theorem paid_holds : Ytlhfeiacigmliaa.Rows.SoapPaidSaid :=
  OpenClaim.holds_of_wide 9 Try.f9 rfl rfl rfl rfl rfl rfl rfl ⟨rfl, rfl, rfl, rfl, rfl⟩ rfl rfl rfl rfl rfl (by kernel_rfl) Try.func9 (by kernel_rfl)
    (of_decide_eq_true (by kernel_rfl)) (by unfold Func.isWrapper; first | (rw [if_pos (by decide +kernel)]; kernel_rfl) | (rw [if_neg (by decide +kernel)]; exact ⟨rfl, rfl⟩))
    (fun os started H enc _ => paid_lifted os started H enc)
#print axioms paid_holds
end Go.Proofs.Ytlhfeiacigmliaa
