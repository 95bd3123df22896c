/- The law SoapMore answers true for every slate and saying: with one more saying no bounds are wider, a verdict other than Perhaps stays, as long as there is a truth, and no fewer sayings have to be left out, but at most one more. -/
import Derived.Test.YtlhfeiacigmliaaPartI
set_option linter.all false
namespace Go.Proofs.Ytlhfeiacigmliaa
open Go Go.ChangeShapes Go.RowKit
set_option maxRecDepth 100000

/-- One more element behind a copy. -/
theorem append_copy1 {α : Type} {f : α → List AVal} {sz : Nat} (hf : ∀ a, (f a).length = sz) (bytes : Nat) (p : Nat) (q : Nat → Nat) (N : Nat) (O : List AObj) (l : List α) (a : α) (cs : List AVal) (hcs : cs = f a) (perm : Perm) (h : (l.length + 1) * bytes ≤ 140737488355328) (h' : l.length + 1 ≤ 140737488355328) :
    appendA sz bytes (copySl f p l) (.vsl cs 1 perm) ⟨N, O, roomP p (lenOf l), roomC p q (lenOf l)⟩ = some (ownSl f p (app l [a]), ⟨N, O, roomP p (lenOf (app l [a])), roomC p q (lenOf (app l [a]))⟩) := by
  by_cases h0 : l.length = 0
  · have hl := List.length_eq_zero_iff.mp h0
    subst hl hcs
    have hl := hf a
    simp only [List.length_nil, Nat.zero_add] at h h'
    simp [appendA, elemsA, copySl, ownSl, roomP, roomC, lenOf, app, hl, h, h', cells_cons, cells_nil, St.fresh]
    omega
  · have hc : copySl f p l = ownSl f p l := by unfold copySl ownSl; rw [if_neg h0, if_neg h0]
    rw [hc]
    exact append_own hf bytes p q N O l a cs hcs perm h h'
/-- Arguments are taken without their rights. -/
theorem lim_norms {k sz : Nat} {F : AFun} {args args' : List AVal} (h : tbl k = some F) (hg : F.gc = some sz) (he : norms args = norms args') (s : St) : lim tbl (.call k args) s = lim tbl (.call k args') s := by
  have hl : args.length = args'.length := by have := congrArg List.length he; rwa [norms_length, norms_length] at this
  rw [lim_call h, lim_call h, hg, frameV_some, frameV_some, he]
theorem norms_own (w : Int) (es : List Ent) (p : Nat) (A : List Say) (l : List AVal) : norms (.agg [i64 w, sl cE es, ownSl cS p A] :: l) = norms (vSl ⟨w, es, A⟩ :: l) := by
  simp only [norms_cons, norm_agg, norm_own_cS, vSl, norm_vsl, norms_cS, sl]
theorem k11 (S : Slate) (y : Say) (hB : (S.ss.length + 1) * 24 ≤ 140737488355328) (s : St) : lim tbl (.call 11 [vSl S, .agg (cS y)]) s = some (.ret, [.bool true], s) := by
  have h46 := fun s => k46 S s
  have g46 := fun s => k46 ⟨S.women, S.es, S.ss ++ [y]⟩ s
  have h22 := fun s => k22 s
  have n46 := fun w es p A s => lim_norms tbl_46 rfl (norms_own w es p A []) s
  have n24 := fun w es p A s => lim_norms tbl_24 rfl (norms_own w es p A []) s
  have n57 := fun w es p A l s => lim_norms tbl_57 rfl (norms_own w es p A l) s
  obtain ⟨yw, ⟨ylo, yhi⟩⟩ := y
  change lim tbl (.call 11 [vSl S, .agg [i64 yw, i64 ylo, i64 yhi]]) s = _
  rw [lim_call tbl_11]
  obtain ⟨N, O, p, q⟩ := s
  have hcp := append_copy (f := cS) (sz := 3) (fun _ => rfl) 24 p q (na N 1) (.cells [i64 S.women, sl cE S.es, sl cS S.ss] :: O) S.ss (by omega) (by omega)
  have hc1 := append_copy1 (f := cS) (sz := 3) (fun _ => rfl) 24 p q (na N 1) (.cells [i64 S.women, sl cE S.es, sl cS S.ss] :: O) S.ss ⟨yw, ⟨ylo, yhi⟩⟩ [i64 yw, i64 ylo, i64 yhi] rfl .full (by omega) (by omega)
  cases hT : readyS S with
  | false =>
    rw [hT] at h46
    generalize app S.ss [⟨yw, ⟨ylo, yhi⟩⟩] = A at hc1
    obtain ⟨w, es, ss⟩ := S
    (try simp only [go_sem, ↓reduceIte, Nat.reduceAdd, Nat.reduceEqDiff, Nat.reduceLT, Nat.reduceLeDiff, Nat.reduceBEq, Int.reduceEq, Int.reduceLT, Int.reduceLE]); (repeat ((first | rw [hcp] | rw [hc1] | simp only [h46] | simp only [h22] | (rw [lt_yes]; rotate_left; (first | omega | (simp [lenOf, app]; omega) | (simp only [lenOf]; omega))) | (rw [lt_no]; rotate_left; (first | omega | (simp [lenOf, app]; omega) | (simp only [lenOf]; omega))) | (rw [idxA_at]; rotate_left; (first | omega | (simp [lenOf, app]; omega) | (simp only [lenOf]; omega))) | (rw [wr_up]; rotate_left; (first | omega | (simp [lenOf, app]; omega) | (simp only [lenOf]; omega))) | ((first | rw [drop_cI] | rw [drop_cE] | rw [drop_cS] | rw [drop_cP] | rw [drop_cR]); rotate_left; assumption)); try simp only [go_sem, ↓reduceIte, Nat.reduceAdd, Nat.reduceEqDiff, Nat.reduceLT, Nat.reduceLeDiff, Nat.reduceBEq, Int.reduceEq, Int.reduceLT, Int.reduceLE]))
  | true =>
    rw [hT] at h46
    change ∀ s, lim tbl (.call 46 [vSl ⟨S.women, S.es, app S.ss [⟨yw, ⟨ylo, yhi⟩⟩]⟩]) s = _ at g46
    cases hX : readyS ⟨S.women, S.es, app S.ss [⟨yw, ⟨ylo, yhi⟩⟩]⟩ with
    | false =>
      change readyS ⟨S.women, S.es, S.ss ++ [⟨yw, ⟨ylo, yhi⟩⟩]⟩ = _ at hX
      rw [hX] at g46
      generalize app S.ss [⟨yw, ⟨ylo, yhi⟩⟩] = A at hc1 g46
      have g46 := fun p s => (n46 S.women S.es p A s).trans (g46 s)
      obtain ⟨w, es, ss⟩ := S
      (try simp only [go_sem, ↓reduceIte, Nat.reduceAdd, Nat.reduceEqDiff, Nat.reduceLT, Nat.reduceLeDiff, Nat.reduceBEq, Int.reduceEq, Int.reduceLT, Int.reduceLE]); (repeat ((first | rw [hcp] | rw [hc1] | simp only [h46] | simp only [g46] | simp only [h22] | (rw [lt_yes]; rotate_left; (first | omega | (simp [lenOf, app]; omega) | (simp only [lenOf]; omega))) | (rw [lt_no]; rotate_left; (first | omega | (simp [lenOf, app]; omega) | (simp only [lenOf]; omega))) | (rw [idxA_at]; rotate_left; (first | omega | (simp [lenOf, app]; omega) | (simp only [lenOf]; omega))) | (rw [wr_up]; rotate_left; (first | omega | (simp [lenOf, app]; omega) | (simp only [lenOf]; omega))) | ((first | rw [drop_cI] | rw [drop_cE] | rw [drop_cS] | rw [drop_cP] | rw [drop_cR]); rotate_left; assumption)); try simp only [go_sem, ↓reduceIte, Nat.reduceAdd, Nat.reduceEqDiff, Nat.reduceLT, Nat.reduceLeDiff, Nat.reduceBEq, Int.reduceEq, Int.reduceLT, Int.reduceLE]))
    | true =>
      change readyS ⟨S.women, S.es, S.ss ++ [⟨yw, ⟨ylo, yhi⟩⟩]⟩ = _ at hX
      rw [hX] at g46
      obtain ⟨hc, hT1⟩ := ready_inv hT
      obtain ⟨hcX, _⟩ := ready_inv hX
      have gS := good_of_check hc
      have gX := good_of_check hcX
      have e6 := gS.e6
      have s5 := gS.s5
      have s5' := gX.s5
      obtain ⟨m1, m2, m3⟩ := more_law hc hcX
      change (S.ss ++ [_]).length ≤ 5 at s5'
      have h24 := fun s => k24 S (by omega) (by omega) s
      have g24 := fun s => k24 ⟨S.women, S.es, app S.ss [⟨yw, ⟨ylo, yhi⟩⟩]⟩ (by simp only; omega) (by change (S.ss ++ [_]).length < _; omega) s
      have h41 := fun s => k41 S s
      have g41 : ∀ s, lim tbl (.call 41 [vSl ⟨S.women, S.es, app S.ss [⟨yw, ⟨ylo, yhi⟩⟩]⟩]) s = some (.ret, [.tup [sl cI (leaveL ⟨S.women, S.es, S.ss ++ [⟨yw, ⟨ylo, yhi⟩⟩]⟩), i64 (checkSlate ⟨S.women, S.es, S.ss ++ [⟨yw, ⟨ylo, yhi⟩⟩]⟩)]], s) := fun s => k41 ⟨S.women, S.es, app S.ss [⟨yw, ⟨ylo, yhi⟩⟩]⟩ s
      rw [hc] at h41
      rw [hcX] at g41
      have h57 := fun h s => k57 ⟨S.women, S.es, app S.ss [⟨yw, ⟨ylo, yhi⟩⟩]⟩ S (m3 h) s
      generalize leaveL ⟨S.women, S.es, S.ss ++ [⟨yw, ⟨ylo, yhi⟩⟩]⟩ = L2 at g41 m1 m2 h57
      have hl1 : (leaveL S).length < 100 := by
        obtain ⟨b, b1, b2, _⟩ := leave_law hc
        have hb : b < 64 := Nat.lt_of_lt_of_le b1 (pw_mono (j := 6) (by omega))
        have := (pc_facts b hb).1
        unfold pc at this
        rw [b2]; omega
      generalize leaveL S = L1 at h41 m1 m2 hl1
      have n1 : ¬ Int.ofNat (lenOf L2) < Int.ofNat (lenOf L1) := by
        unfold lenOf; show ¬ ((L2.length : Int) < (L1.length : Int)); omega
      have n2 : ¬ wr .i64 (Int.add (Int.ofNat (lenOf L1)) 1) < Int.ofNat (lenOf L2) := by
        unfold lenOf
        rw [fold_add, wr_in (by simp; omega) (by simp; omega)]
        show ¬ ((L1.length : Int) + 1 < (L2.length : Int)); omega
      generalize app S.ss [⟨yw, ⟨ylo, yhi⟩⟩] = A at hc1 g46 g24 g41 h57
      have g46 := fun p s => (n46 S.women S.es p A s).trans (g46 s)
      by_cases hz : L2.length = 0
      · have n3 : ¬ (0 : Int) < Int.ofNat (lenOf L2) := by unfold lenOf; rw [hz]; decide
        have h57 := h57 hz
        obtain ⟨w, es, ss⟩ := S
        (try simp only [go_sem, ↓reduceIte, Nat.reduceAdd, Nat.reduceEqDiff, Nat.reduceLT, Nat.reduceLeDiff, Nat.reduceBEq, Int.reduceEq, Int.reduceLT, Int.reduceLE]); (repeat ((first | rw [hcp] | rw [hc1] | simp only [h46] | simp only [g46] | simp only [h24] | simp only [n24] | simp only [g24] | simp only [h41] | simp only [g41] | rw [lt_n n1] | rw [lt_n n2] | rw [lt_n n3] | simp only [n57] | simp only [h57] | simp only [h22] | (rw [lt_yes]; rotate_left; (first | omega | (simp [lenOf, app]; omega) | (simp only [lenOf]; omega))) | (rw [lt_no]; rotate_left; (first | omega | (simp [lenOf, app]; omega) | (simp only [lenOf]; omega))) | (rw [idxA_at]; rotate_left; (first | omega | (simp [lenOf, app]; omega) | (simp only [lenOf]; omega))) | (rw [wr_up]; rotate_left; (first | omega | (simp [lenOf, app]; omega) | (simp only [lenOf]; omega))) | ((first | rw [drop_cI] | rw [drop_cE] | rw [drop_cS] | rw [drop_cP] | rw [drop_cR]); rotate_left; assumption)); try simp only [go_sem, ↓reduceIte, Nat.reduceAdd, Nat.reduceEqDiff, Nat.reduceLT, Nat.reduceLeDiff, Nat.reduceBEq, Int.reduceEq, Int.reduceLT, Int.reduceLE]))
      · have n3 : (0 : Int) < Int.ofNat (lenOf L2) := by unfold lenOf; show (0 : Int) < (L2.length : Int); omega
        obtain ⟨w, es, ss⟩ := S
        (try simp only [go_sem, ↓reduceIte, Nat.reduceAdd, Nat.reduceEqDiff, Nat.reduceLT, Nat.reduceLeDiff, Nat.reduceBEq, Int.reduceEq, Int.reduceLT, Int.reduceLE]); (repeat ((first | rw [hcp] | rw [hc1] | simp only [h46] | simp only [g46] | simp only [h24] | simp only [n24] | simp only [g24] | simp only [h41] | simp only [g41] | rw [lt_n n1] | rw [lt_n n2] | rw [lt_y n3] | simp only [h22] | (rw [lt_yes]; rotate_left; (first | omega | (simp [lenOf, app]; omega) | (simp only [lenOf]; omega))) | (rw [lt_no]; rotate_left; (first | omega | (simp [lenOf, app]; omega) | (simp only [lenOf]; omega))) | (rw [idxA_at]; rotate_left; (first | omega | (simp [lenOf, app]; omega) | (simp only [lenOf]; omega))) | (rw [wr_up]; rotate_left; (first | omega | (simp [lenOf, app]; omega) | (simp only [lenOf]; omega))) | ((first | rw [drop_cI] | rw [drop_cE] | rw [drop_cS] | rw [drop_cP] | rw [drop_cR]); rotate_left; assumption)); try simp only [go_sem, ↓reduceIte, Nat.reduceAdd, Nat.reduceEqDiff, Nat.reduceLT, Nat.reduceLeDiff, Nat.reduceBEq, Int.reduceEq, Int.reduceLT, Int.reduceLE]))
theorem Try_own : ownKnob Try.prog.godebug = none := by kernel_rfl
theorem more_lifted (os : Os) (started : os.Started) (H : Type) (enc : TypeId × Value → H) :
    ReturnsInHanded {} Try.checked os 11 .any (Ytlhfeiacigmliaa.Rows.soapMoreSpec.pre6 enc Try.prog Try.f11 Ytlhfeiacigmliaa.Rows.soapMoreRow.domain false) (Ytlhfeiacigmliaa.Rows.soapMoreSpec.post enc Try.prog Try.f11 false true false false) := by
  refine returnsInHanded_of_change_sized (C := Try.checked) Try_own started (by kernel_rfl) Try.func11
    (ChangeSpec.witness6 (enc := enc) (C := Try.checked) false ⟨#[], #[.agg #[.int .i64 0, .slice none 0 0, .slice none 0 0], .agg #[.int .i64 0, .int .i64 0, .int .i64 0]], []⟩ 8 (by kernel_rfl) (by kernel_rfl) (by kernel_rfl) (by kernel_rfl)) ?_
  intro W base args ds gs before hval0 hW hcnd hz _
  have hval : ∀ (j : Nat) t v, Try.f11.params[j]? = some t → args[j]? = some v → Value.okWide Try.prog W .any base t v := hval0
  have hW' := hW
  obtain ⟨p, q, hA0, hV, rfl, hfz, hnd⟩ := hW
  have hA : DataW.TrodAll enc Try.prog W 0 (fun _ => true) true Try.f11.params.toList args.toList ds p := hA0
  rw [Try.params11] at hA hval
  obtain ⟨v0, v1, d0, d1, p0, p1, rfl, rfl, hp, h0, h1⟩ := trodAll_two hA
  obtain ⟨rfl, rfl⟩ := trodVars_none hV
  obtain ⟨x0, r0⟩ := rel_slate (hval 0 25 v0 rfl rfl) h0
  obtain ⟨x1, r1⟩ := rel_say (hval 1 88 v1 rfl rfl) h1
  refine (sound_lim tbl_ok (k11 x0 x1 (by have := slate_sized (j := 0) h0 r0 rfl rfl hz; unfold reachBytes at this; omega) St.empty) (sim0 Try.prog W) (args' := #[v0, v1]) ⟨v0, [v1], rfl, r0, ⟨v1, [], rfl, r1, rfl⟩⟩).mono fun e W' he => ?_
  obtain ⟨v', ρ', he, hv, _, hF⟩ := he
  subst he
  have hv : v' = .bool true := hv
  subst hv
  exact ⟨_, rfl, shut_true hW' rfl rfl (by rw [Try.params11]; intro t ht; simp at ht; rcases ht with rfl | rfl <;> exact ⟨by kernel_rfl, of_decide_eq_true (by kernel_rfl)⟩) rfl rfl rfl hF⟩
theorem more_holds : Ytlhfeiacigmliaa.Rows.SoapMoreSaid :=
  OpenClaim.holds_of_wide 11 Try.f11 rfl rfl rfl rfl rfl rfl rfl ⟨rfl, rfl, rfl, rfl, rfl⟩ rfl rfl rfl rfl rfl (by kernel_rfl) Try.func11 (by kernel_rfl)
    (of_decide_eq_true (by kernel_rfl)) (by unfold Func.isWrapper; first | (rw [if_pos (by decide +kernel)]; kernel_rfl) | (rw [if_neg (by decide +kernel)]; exact ⟨rfl, rfl⟩))
    (fun os started H enc _ => more_lifted os started H enc)
#print axioms more_holds
end Go.Proofs.Ytlhfeiacigmliaa
