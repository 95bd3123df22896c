/- The wash-house's soap: what the functions compute: the truths of a slate at work, and bounds. -/
import Derived.Test.YtlhfeiacigmliaaPartH
set_option linter.all false
namespace Go.Proofs.Ytlhfeiacigmliaa
open Go
set_option maxRecDepth 10000
set_option linter.unusedSectionVars false

theorem rngUp_len : ∀ (m : Nat) (v : Int), (rngUp v m).length = m
  | 0, _ => rfl
  | m + 1, v => by simp [rngUp, rngUp_len m]
theorem ozs_len : ∀ es : List Ent, (ozs es).length = prodN es
  | [] => rfl
  | e :: es => by
    have ih := ozs_len es
    have h : ∀ l : List Int, (l.flatMap fun v => (ozs es).map (v :: ·)).length = l.length * prodN es := by
      intro l; induction l with
      | nil => simp
      | cons a l ihl => rw [List.flatMap_cons, List.length_append, ihl, List.length_map, ih, List.length_cons, Nat.add_mul]; omega
    rw [ozs, h, rngUp_len, prodN]
theorem iter_true {σ : Type} (step : σ → List Int → σ) : ∀ (l : List (List Int)) (x : σ), (iterL (fun _ _ => true) step l x).2 = true
  | [], _ => rfl
  | L :: l, x => by simp [iterL, iter_true step l]
theorem k74 (S : Slate) (hc : checkSlate S = 0) (N : Nat) (O : List AObj) (p : Nat) (q : Nat → Nat) : ∃ (T : List Purse) (M : Nat) (Q : List AObj),
    T.map (·.1) = asked S ∧ OldO N O M Q ∧ gO M Q N = some (.cells [i64 S.women, sl cE S.es, sl cS S.ss, ownSl cT p T]) ∧ (∀ x ∈ T, N < x.2 ∧ gO M Q x.2 = some (.map true [])) ∧ (T.map (·.2)).Nodup ∧ T.length < 100000 ∧
    lim tbl (.call 74 [vSl S]) ⟨N, O, p, q⟩ = some (.ret, [if asked S = [] then .tup [.nilp, i64 11] else .tup [.ptr N 0, i64 0]], ⟨M, Q, roomP p (lenOf T), roomC p q (lenOf T)⟩) := by
  have h63 := fun s => k63 S s
  rw [hc] at h63
  have hG := good_of_check hc
  have hm := (many_of_check hc).1
  obtain ⟨w, es, ss⟩ := S
  simp only at hm ⊢
  have hJ : J74 w es ss N O p q [] (zerosL es.length) [] (na (na (na (na (na (na N 1) 1) 1) 1) 1) 1) (.cells [.fn (.func 131) [] [.vref [i64 w, sl cE es, sl cS ss], .vref [.yld (na (na N 1) 1)], .ptr (na (na (na (na N 1) 1) 1) 1) 0, .ptr (na (na (na (na (na N 1) 1) 1) 1) 1) 0]] ::
      .cells [.hsl (na (na (na N 1) 1) 1) 0 (lenOf es) (some (lenOf es))] :: .cells (cellsOf cI (zerosL (lenOf es))) :: loop74 w es ss N .ready none :: .cells [.ptr N 0] :: .cells [i64 w, sl cE es, sl cS ss, .sl0] :: O) := by
    refine ⟨rfl, (((((((OldO.refl N O).push _).push _).push _).push _).push _).push _), ?_, ?_, ?_, by simp [zerosL], ?_, ?_, ?_, by simp, by simp⟩
    · exact gO_push (gO_push (gO_push (gO_push (gO_push (gO_new ..) _) _) _) _) _
    · exact gO_push (gO_push (gO_push (gO_push (gO_new ..) _) _) _) _
    · exact gO_push (gO_push (gO_push (gO_new ..) _) _) _
    · exact gO_push (gO_push (gO_new ..) _) _
    · exact gO_push (gO_new ..) _
    · exact gO_new ..
  obtain ⟨s', hl, hr⟩ := k130 (it74 hG N O p q) [] (by rw [ozs_len]; simp; omega) ⟨[], _, _, rfl, hJ⟩
  rw [iter_true] at hr
  simp only [if_true] at hr
  simp only [lenOf_nil, roomP_0, roomC_0] at hl
  obtain ⟨now', T, M, Q, rfl, h⟩ := hr
  obtain ⟨Q1, s1, _, g1, g2, g3⟩ := gO_set h.loop (loop74 w es ss N .exhausted none)
  have k1 : ∀ b o, b ≠ na (na N 1) 1 → gO M Q b = some o → gO M Q1 b = some o := fun b o hb g => (g2 b hb).trans g
  have hwk := k1 _ _ (by simp only [na]; omega) h.wk
  have hcell := k1 _ _ (by simp only [na]; omega) h.cell
  have hTl : T.length < 100000 := by
    have h1 := congrArg List.length h.vs
    have h2 := iterL_K (fun _ _ => true) (askStep es ss) List.length (askStep_len es ss) (ozs es) []
    rw [ozs_len] at h2
    simp only [List.length_map, List.length_nil] at h1 h2; omega
  have hvs : T.map (·.1) = asked ⟨w, es, ss⟩ := h.vs
  refine ⟨T, M, Q1, hvs, g3 _ _ h.old (by simp only [na]; omega), hwk, fun x hx => ?_, h.nd, hTl, ?_⟩
  · obtain ⟨m1, m2⟩ := h.maps x hx
    exact ⟨by simp only [na] at m1; omega, k1 _ _ (by simp only [na] at m1 ⊢; omega) m2⟩
  · have e1 : ∀ p' q', St.get ⟨M, Q, p', q'⟩ (na (na N 1) 1) = some (loop74 w es ss N .ready none) := fun _ _ => h.loop
    have e2 : ∀ p' q', St.get ⟨M, Q1, p', q'⟩ (na N 1) = some (.cells [.ptr N 0]) := fun _ _ => hcell
    have e3 : ∀ p' q', St.get ⟨M, Q1, p', q'⟩ N = some (.cells [i64 w, sl cE es, sl cS ss, ownSl cT p T]) := fun _ _ => hwk
    rw [lim_call tbl_74]
    unfold loop74 at hl e1 s1
    by_cases hz : asked ⟨w, es, ss⟩ = []
    · have hT0 : Int.ofNat (lenOf T) = 0 := by
        rw [hz] at hvs
        have : T = [] := by simpa using hvs
        rw [this]; rfl
      rw [if_pos hz]
      (try simp only [go_sem, ↓reduceIte, Nat.reduceAdd, Nat.reduceEqDiff, Nat.reduceLT, Nat.reduceLeDiff, Nat.reduceBEq, Int.reduceEq, Int.reduceLT, Int.reduceLE]); (repeat ((first | simp only [h63] | rw [hl] | rw [e1] | rw [s1] | rw [e2] | rw [e3] | rw [eq_y hT0] | (rw [lt_yes]; rotate_left; (first | omega | (simp [lenOf, app]; omega) | (simp only [lenOf]; omega))) | (rw [lt_no]; rotate_left; (first | omega | (simp [lenOf, app]; omega) | (simp only [lenOf]; omega))) | (rw [idxA_at]; rotate_left; (first | omega | (simp [lenOf, app]; omega) | (simp only [lenOf]; omega))) | (rw [wr_up]; rotate_left; (first | omega | (simp [lenOf, app]; omega) | (simp only [lenOf]; omega))) | ((first | rw [drop_cI] | rw [drop_cE] | rw [drop_cS] | rw [drop_cP] | rw [drop_cR]); rotate_left; assumption)); try simp only [go_sem, ↓reduceIte, Nat.reduceAdd, Nat.reduceEqDiff, Nat.reduceLT, Nat.reduceLeDiff, Nat.reduceBEq, Int.reduceEq, Int.reduceLT, Int.reduceLE]))
    · have hT0 : ¬ Int.ofNat (lenOf T) = 0 := by
        intro h0
        apply hz
        rw [← hvs]
        have : T = [] := List.length_eq_zero_iff.mp (by simpa [lenOf] using h0)
        rw [this]; rfl
      rw [if_neg hz]
      (try simp only [go_sem, ↓reduceIte, Nat.reduceAdd, Nat.reduceEqDiff, Nat.reduceLT, Nat.reduceLeDiff, Nat.reduceBEq, Int.reduceEq, Int.reduceLT, Int.reduceLE]); (repeat ((first | simp only [h63] | rw [hl] | rw [e1] | rw [s1] | rw [e2] | rw [e3] | rw [eq_n hT0] | (rw [lt_yes]; rotate_left; (first | omega | (simp [lenOf, app]; omega) | (simp only [lenOf]; omega))) | (rw [lt_no]; rotate_left; (first | omega | (simp [lenOf, app]; omega) | (simp only [lenOf]; omega))) | (rw [idxA_at]; rotate_left; (first | omega | (simp [lenOf, app]; omega) | (simp only [lenOf]; omega))) | (rw [wr_up]; rotate_left; (first | omega | (simp [lenOf, app]; omega) | (simp only [lenOf]; omega))) | ((first | rw [drop_cI] | rw [drop_cE] | rw [drop_cS] | rw [drop_cP] | rw [drop_cR]); rotate_left; assumption)); try simp only [go_sem, ↓reduceIte, Nat.reduceAdd, Nat.reduceEqDiff, Nat.reduceLT, Nat.reduceLeDiff, Nat.reduceBEq, Int.reduceEq, Int.reduceLT, Int.reduceLE]))
theorem k74n (S : Slate) (hc : checkSlate S ≠ 0) (s : St) : lim tbl (.call 74 [vSl S]) s = some (.ret, [.tup [.nilp, i64 (checkSlate S)]], s) := by
  have h63 := fun s => k63 S s
  rw [lim_call tbl_74]
  generalize checkSlate S = c at h63 hc ⊢
  obtain ⟨w, es, ss⟩ := S
  obtain ⟨N, O, p, q⟩ := s
  (try simp only [go_sem, ↓reduceIte, Nat.reduceAdd, Nat.reduceEqDiff, Nat.reduceLT, Nat.reduceLeDiff, Nat.reduceBEq, Int.reduceEq, Int.reduceLT, Int.reduceLE]); (repeat ((first | simp only [h63] | rw [eq_n hc] | (rw [lt_yes]; rotate_left; (first | omega | (simp [lenOf, app]; omega) | (simp only [lenOf]; omega))) | (rw [lt_no]; rotate_left; (first | omega | (simp [lenOf, app]; omega) | (simp only [lenOf]; omega))) | (rw [idxA_at]; rotate_left; (first | omega | (simp [lenOf, app]; omega) | (simp only [lenOf]; omega))) | (rw [wr_up]; rotate_left; (first | omega | (simp [lenOf, app]; omega) | (simp only [lenOf]; omega))) | ((first | rw [drop_cI] | rw [drop_cE] | rw [drop_cS] | rw [drop_cP] | rw [drop_cR]); rotate_left; assumption)); try simp only [go_sem, ↓reduceIte, Nat.reduceAdd, Nat.reduceEqDiff, Nat.reduceLT, Nat.reduceLeDiff, Nat.reduceBEq, Int.reduceEq, Int.reduceLT, Int.reduceLE]))
theorem k75 (a : Nat → Int) (m j : Nat) (hj : j < 6) (s : St) : lim tbl (.call 75 [.vref (c7 a m), i64 (Int.ofNat j)]) s = some (.ret, [i64 (a j)], s) := by
  rw [lim_call tbl_75]
  have hd := drop_c7 a m hj
  have hi : idxA (i64 (Int.ofNat j)) 6 = some j := idxA_at hj
  obtain ⟨N, O, p, q⟩ := s
  (try simp only [go_sem, ↓reduceIte, Nat.reduceAdd, Nat.reduceEqDiff, Nat.reduceLT, Nat.reduceLeDiff, Nat.reduceBEq, Int.reduceEq, Int.reduceLT, Int.reduceLE]); (repeat ((first | rw [hi] | rw [hd] | (rw [lt_yes]; rotate_left; (first | omega | (simp [lenOf, app]; omega) | (simp only [lenOf]; omega))) | (rw [lt_no]; rotate_left; (first | omega | (simp [lenOf, app]; omega) | (simp only [lenOf]; omega))) | (rw [idxA_at]; rotate_left; (first | omega | (simp [lenOf, app]; omega) | (simp only [lenOf]; omega))) | (rw [wr_up]; rotate_left; (first | omega | (simp [lenOf, app]; omega) | (simp only [lenOf]; omega))) | ((first | rw [drop_cI] | rw [drop_cE] | rw [drop_cS] | rw [drop_cP] | rw [drop_cR]); rotate_left; assumption)); try simp only [go_sem, ↓reduceIte, Nat.reduceAdd, Nat.reduceEqDiff, Nat.reduceLT, Nat.reduceLeDiff, Nat.reduceBEq, Int.reduceEq, Int.reduceLT, Int.reduceLE]))

/-- The maps of purses, with what is known of them. -/
def MapsOk (P : (Nat → Int) → List (List AVal × AVal) → Prop) (T : List Purse) (M : Nat) (Q : List AObj) : Prop := ∀ x ∈ T, ∃ es, gO M Q x.2 = some (.map true es) ∧ P x.1 es
/-- Nothing changes but these maps, and new blocks. -/
structure Eff (P : (Nat → Int) → List (List AVal × AVal) → Prop) (T : List Purse) (M : Nat) (Q : List AObj) (M' : Nat) (Q' : List AObj) : Prop where
  keep : ∀ b o, (∀ x ∈ T, b ≠ x.2) → gO M Q b = some o → gO M' Q' b = some o
  old : ∀ N0 O0, (∀ x ∈ T, N0 ≤ x.2) → OldO N0 O0 M Q → OldO N0 O0 M' Q'
  maps : MapsOk P T M' Q'
theorem MapsOk.push {P : (Nat → Int) → List (List AVal × AVal) → Prop} {T : List Purse} {M : Nat} {Q : List AObj} (h : MapsOk P T M Q) (o : AObj) : MapsOk P T (na M 1) (o :: Q) := fun x hx => by
  obtain ⟨es, h1, h2⟩ := h x hx
  exact ⟨es, gO_push h1 o, h2⟩
theorem Eff.refl {P : (Nat → Int) → List (List AVal × AVal) → Prop} {T : List Purse} {M : Nat} {Q : List AObj} (h : MapsOk P T M Q) : Eff P T M Q M Q := ⟨fun _ _ _ g => g, fun _ _ _ g => g, h⟩
def pbUp (lo hi : Int) (val : (Nat → Int) → Int) : List (Nat → Int) → Int × Int
  | [] => (lo, hi)
  | a :: l => pbUp (mn lo (val a)) (mx hi (val a)) val l
def pBounds (val : (Nat → Int) → Int) : List (Nat → Int) → Int × Int
  | [] => (0, 0)
  | a :: l => pbUp (mn (val a) (val a)) (mx (val a) (val a)) val l
section
variable (P : (Nat → Int) → List (List AVal × AVal) → Prop) (T : List Purse) (g : Nat) (j : Nat) (val : (Nat → Int) → Int) (p : Nat) (q : Nat → Nat)
  (hf : ∀ x ∈ T, ∀ M Q, MapsOk P T M Q → ∃ M' Q', Eff P T M Q M' Q' ∧ one (lim tbl (.call g [.vref (c7 x.1 x.2), i64 (Int.ofNat j)]) ⟨M, Q, p, q⟩) = some (i64 (val x.1), ⟨M', Q', p, q⟩)) (hg : g < 4096)
include hf hg
theorem l76 (pt : Nat) (hT : T.length < 100000) (b : Nat) (hb : ∀ x ∈ T, b ≠ x.2) : ∀ (k i : Nat) (lo hi : Int) (M : Nat) (Q : List AObj), i + k = T.length → 0 < i → MapsOk P T M Q → gO M Q b = some (.cells [i64 lo, i64 hi]) →
    ∃ M' Q', (∀ b' o, b' ≠ b → (∀ x ∈ T, b' ≠ x.2) → gO M Q b' = some o → gO M' Q' b' = some o) ∧ (∀ N0 O0, N0 ≤ b → (∀ x ∈ T, N0 ≤ x.2) → OldO N0 O0 M Q → OldO N0 O0 M' Q') ∧ MapsOk P T M' Q' ∧
      gO M' Q' b = some (.cells [i64 (pbUp lo hi val ((T.drop i).map (·.1))).1, i64 (pbUp lo hi val ((T.drop i).map (·.1))).2]) ∧
      lim tbl (.loop a76_l0 35 ⟨[2, 3, 6, 13, 14, 15], [6], []⟩ [i64 (Int.ofNat j), .vref [.fn (.func g) [] []], .ptr b 0, ownSl cT pt T, i64 (Int.ofNat (lenOf T)), i64 (Int.ofNat i)]) ⟨M, Q, p, q⟩
        = some (.exit 0, [.ptr b 0], ⟨M', Q', p, q⟩) := by
  intro k
  induction k with
  | zero =>
    intro i lo hi M Q hi' h0 hm hgb
    refine ⟨M, Q, fun _ _ _ _ g => g, fun _ _ _ _ h => h, hm, ?_, ?_⟩
    · rw [List.drop_eq_nil_of_le (by omega)]; exact hgb
    · rw [lim_loop]
      (try simp only [go_sem, ↓reduceIte, Nat.reduceAdd, Nat.reduceEqDiff, Nat.reduceLT, Nat.reduceLeDiff, Nat.reduceBEq, Int.reduceEq, Int.reduceLT, Int.reduceLE]); (repeat ((first | (rw [lt_yes]; rotate_left; (first | omega | (simp [lenOf, app]; omega) | (simp only [lenOf]; omega))) | (rw [lt_no]; rotate_left; (first | omega | (simp [lenOf, app]; omega) | (simp only [lenOf]; omega))) | (rw [idxA_at]; rotate_left; (first | omega | (simp [lenOf, app]; omega) | (simp only [lenOf]; omega))) | (rw [wr_up]; rotate_left; (first | omega | (simp [lenOf, app]; omega) | (simp only [lenOf]; omega))) | ((first | rw [drop_cI] | rw [drop_cE] | rw [drop_cS] | rw [drop_cP] | rw [drop_cR]); rotate_left; assumption)); try simp only [go_sem, ↓reduceIte, Nat.reduceAdd, Nat.reduceEqDiff, Nat.reduceLT, Nat.reduceLeDiff, Nat.reduceBEq, Int.reduceEq, Int.reduceLT, Int.reduceLE]))
  | succ k ih =>
    intro i lo hi M Q hi' h0 hm hgb
    have hlt : i < T.length := by omega
    obtain ⟨x, hx, hd⟩ := getElem_drop hlt
    have hdr := drop_cT hx
    obtain ⟨M1, Q1, hE, hc⟩ := hf x (List.mem_of_getElem? hx) M Q hm
    have g1 := hE.keep b _ hb hgb
    obtain ⟨Q2, s2, _, g2, g3, g4⟩ := gO_set g1 (.cells [i64 (mn lo (val x.1)), i64 (mx hi (val x.1))])
    have hm2 : MapsOk P T M1 Q2 := fun y hy => by
      obtain ⟨es, h1, h2⟩ := hE.maps y hy
      exact ⟨es, (g3 _ (Ne.symm (hb y hy))).trans h1, h2⟩
    obtain ⟨M', Q', k1, k2, k3, k4, k5⟩ := ih (i + 1) _ _ M1 Q2 (by omega) (by omega) hm2 g2
    have e1 : St.get ⟨M1, Q1, p, q⟩ b = some (.cells [i64 lo, i64 hi]) := g1
    have hz : ¬ Int.ofNat i = 0 := by simp; omega
    refine ⟨M', Q', fun b' o hb' hb2 hg' => k1 b' o hb' hb2 ((g3 b' hb').trans (hE.keep b' o hb2 hg')), fun N0 O0 hn hn' ho => k2 N0 O0 hn hn' (g4 N0 O0 (hE.old N0 O0 hn' ho) hn), k3, ?_, ?_⟩
    · rw [hd]; exact k4
    · rw [← k5, lim_loop]
      generalize hR : lim tbl (.loop _ _ _ _) _ = R
      (try simp only [go_sem, ↓reduceIte, Nat.reduceAdd, Nat.reduceEqDiff, Nat.reduceLT, Nat.reduceLeDiff, Nat.reduceBEq, Int.reduceEq, Int.reduceLT, Int.reduceLE]); (repeat ((first | rw [hdr] | rw [if_pos hg] | rw [hc] | rw [eq_n hz] | rw [e1] | rw [s2] | (rw [lt_yes]; rotate_left; (first | omega | (simp [lenOf, app]; omega) | (simp only [lenOf]; omega))) | (rw [lt_no]; rotate_left; (first | omega | (simp [lenOf, app]; omega) | (simp only [lenOf]; omega))) | (rw [idxA_at]; rotate_left; (first | omega | (simp [lenOf, app]; omega) | (simp only [lenOf]; omega))) | (rw [wr_up]; rotate_left; (first | omega | (simp [lenOf, app]; omega) | (simp only [lenOf]; omega))) | ((first | rw [drop_cI] | rw [drop_cE] | rw [drop_cS] | rw [drop_cP] | rw [drop_cR]); rotate_left; assumption)); try simp only [go_sem, ↓reduceIte, Nat.reduceAdd, Nat.reduceEqDiff, Nat.reduceLT, Nat.reduceLeDiff, Nat.reduceBEq, Int.reduceEq, Int.reduceLT, Int.reduceLE]))
      exact hR
theorem k76 (pt : Nat) (hT : T.length < 100000) (tw : Nat) (cs : List AVal) (c1 c2 c3 : AVal) (M : Nat) (Q : List AObj) (htw : gO M Q tw = some (.cells [c1, c2, c3, ownSl cT pt T])) (hm : MapsOk P T M Q) :
    ∃ M' Q', (∀ b' o, (∀ x ∈ T, b' ≠ x.2) → gO M Q b' = some o → gO M' Q' b' = some o) ∧ (∀ N0 O0, (∀ x ∈ T, N0 ≤ x.2) → OldO N0 O0 M Q → OldO N0 O0 M' Q') ∧ MapsOk P T M' Q' ∧
      lim tbl (.call 76 [.agg [.fn (.func g) [] []], .ptr tw 0, i64 (Int.ofNat j)]) ⟨M, Q, p, q⟩
        = some (.ret, [.agg [i64 (pBounds val (T.map (·.1))).1, i64 (pBounds val (T.map (·.1))).2]], ⟨M', Q', p, q⟩) := by
  have hbM : ∀ x ∈ T, M ≠ x.2 := fun x hx h => by
    obtain ⟨es, h1, _⟩ := hm x hx
    have := gO_lt h1; omega
  have hm1 := hm.push (.cells [i64 0, i64 0])
  have e0 : St.get ⟨na M 1, .cells [i64 0, i64 0] :: Q, p, q⟩ tw = some (.cells [c1, c2, c3, ownSl cT pt T]) := gO_push htw _
  rw [lim_call tbl_76]
  have fin : ∀ (M' : Nat) (Q' : List AObj) (lo hi : Int), gO M' Q' M = some (.cells [i64 lo, i64 hi]) → ∃ Q'', St.set ⟨M', Q', p, q⟩ M (.cells [i64 lo, i64 hi]) = ⟨M', Q'', p, q⟩ ∧ gO M' Q'' M = some (.cells [i64 lo, i64 hi]) ∧ (∀ b', b' ≠ M → gO M' Q'' b' = gO M' Q' b') ∧ ∀ N0 O0, OldO N0 O0 M' Q' → N0 ≤ M → OldO N0 O0 M' Q'' := fun M' Q' lo hi h => by
    obtain ⟨Q'', s1, _, a1, a2, a3⟩ := gO_set h (.cells [i64 lo, i64 hi])
    exact ⟨Q'', s1 p q, a1, a2, a3⟩
  cases hTT : T with
  | nil =>
    refine ⟨na M 1, .cells [i64 0, i64 0] :: Q, fun b' o _ hg => gO_push hg _, fun N0 O0 _ ho => ho.push _, fun x hx => by simp at hx, ?_⟩
    have hl : lim tbl (.loop a76_l0 35 ⟨[2, 3, 6, 13, 14, 15], [6], []⟩ [i64 (Int.ofNat j), .vref [.fn (.func g) [] []], .ptr M 0, ownSl cT pt [], i64 0, i64 0]) ⟨na M 1, .cells [i64 0, i64 0] :: Q, p, q⟩
        = some (.exit 0, [.ptr M 0], ⟨na M 1, .cells [i64 0, i64 0] :: Q, p, q⟩) := by
      rw [lim_loop]
      (try simp only [go_sem, ↓reduceIte, Nat.reduceAdd, Nat.reduceEqDiff, Nat.reduceLT, Nat.reduceLeDiff, Nat.reduceBEq, Int.reduceEq, Int.reduceLT, Int.reduceLE]); (repeat ((first | (rw [lt_yes]; rotate_left; (first | omega | (simp [lenOf, app]; omega) | (simp only [lenOf]; omega))) | (rw [lt_no]; rotate_left; (first | omega | (simp [lenOf, app]; omega) | (simp only [lenOf]; omega))) | (rw [idxA_at]; rotate_left; (first | omega | (simp [lenOf, app]; omega) | (simp only [lenOf]; omega))) | (rw [wr_up]; rotate_left; (first | omega | (simp [lenOf, app]; omega) | (simp only [lenOf]; omega))) | ((first | rw [drop_cI] | rw [drop_cE] | rw [drop_cS] | rw [drop_cP] | rw [drop_cR]); rotate_left; assumption)); try simp only [go_sem, ↓reduceIte, Nat.reduceAdd, Nat.reduceEqDiff, Nat.reduceLT, Nat.reduceLeDiff, Nat.reduceBEq, Int.reduceEq, Int.reduceLT, Int.reduceLE]))
    rw [hTT] at e0
    simp only [List.map_nil, pBounds]
    (try simp only [go_sem, ↓reduceIte, Nat.reduceAdd, Nat.reduceEqDiff, Nat.reduceLT, Nat.reduceLeDiff, Nat.reduceBEq, Int.reduceEq, Int.reduceLT, Int.reduceLE]); (repeat ((first | rw [e0] | rw [hl] | (rw [lt_yes]; rotate_left; (first | omega | (simp [lenOf, app]; omega) | (simp only [lenOf]; omega))) | (rw [lt_no]; rotate_left; (first | omega | (simp [lenOf, app]; omega) | (simp only [lenOf]; omega))) | (rw [idxA_at]; rotate_left; (first | omega | (simp [lenOf, app]; omega) | (simp only [lenOf]; omega))) | (rw [wr_up]; rotate_left; (first | omega | (simp [lenOf, app]; omega) | (simp only [lenOf]; omega))) | ((first | rw [drop_cI] | rw [drop_cE] | rw [drop_cS] | rw [drop_cP] | rw [drop_cR]); rotate_left; assumption)); try simp only [go_sem, ↓reduceIte, Nat.reduceAdd, Nat.reduceEqDiff, Nat.reduceLT, Nat.reduceLeDiff, Nat.reduceBEq, Int.reduceEq, Int.reduceLT, Int.reduceLE]))
  | cons x T' =>
    have hx : T[0]? = some x := by rw [hTT]; rfl
    have hxm : x ∈ T := by rw [hTT]; simp
    have hdr := drop_cT hx
    obtain ⟨M1, Q1, hE, hc⟩ := hf x hxm (na M 1) (.cells [i64 0, i64 0] :: Q) hm1
    have g1 := hE.keep M _ hbM (gO_new ..)
    obtain ⟨Q2, s2, _, g2, g3, g4⟩ := gO_set g1 (.cells [i64 (val x.1), i64 (val x.1)])
    obtain ⟨Q3, s3, _, g5, g6, g7⟩ := gO_set g2 (.cells [i64 (mn (val x.1) (val x.1)), i64 (mx (val x.1) (val x.1))])
    have hm3 : MapsOk P T M1 Q3 := fun y hy => by
      obtain ⟨es, h1, h2⟩ := hE.maps y hy
      exact ⟨es, (g6 _ (Ne.symm (hbM y hy))).trans ((g3 _ (Ne.symm (hbM y hy))).trans h1), h2⟩
    have hTl : 1 + (T.length - 1) = T.length := by rw [hTT]; simp; omega
    obtain ⟨M', Q', k1, k2, k3, k4, k5⟩ := l76 P T g j val p q hf hg pt hT M hbM (T.length - 1) 1 _ _ M1 Q3 hTl (by omega) hm3 g5
    obtain ⟨Q4, s4, g8, g9, g10⟩ := fin M' Q' _ _ k4
    have hpb : pbUp (mn (val x.1) (val x.1)) (mx (val x.1) (val x.1)) val ((T.drop 1).map (·.1)) = pBounds val (T.map (·.1)) := by rw [hTT]; rfl
    rw [hpb] at k4 s4 g8
    rw [← hTT]
    refine ⟨M', Q4, fun b' o hb' hg => ?_, fun N0 O0 hn ho => ?_, fun y hy => ?_, ?_⟩
    · have hb : b' ≠ M := by have := gO_lt hg; omega
      rw [g9 b' hb]
      refine k1 b' o hb hb' ?_
      rw [g6 b' hb, g3 b' hb]
      exact hE.keep b' o hb' (gO_push hg _)
    · have hnM : N0 ≤ M := ho.1
      exact g10 N0 O0 (k2 N0 O0 hnM hn (g7 N0 O0 (g4 N0 O0 (hE.old N0 O0 hn (ho.push _)) hnM) hnM)) hnM
    · obtain ⟨es, h1, h2⟩ := k3 y hy
      exact ⟨es, (g9 _ (Ne.symm (hbM y hy))).trans h1, h2⟩
    · have e1 : St.get ⟨M1, Q1, p, q⟩ M = some (.cells [i64 0, i64 0]) := g1
      have e2 : St.get ⟨M1, Q2, p, q⟩ M = some (.cells [i64 (val x.1), i64 (val x.1)]) := g2
      have e3 : St.get ⟨M', Q', p, q⟩ M = some (.cells [i64 (pBounds val (T.map (·.1))).1, i64 (pBounds val (T.map (·.1))).2]) := k4
      have e4 : St.get ⟨M', Q4, p, q⟩ M = some (.cells [i64 (pBounds val (T.map (·.1))).1, i64 (pBounds val (T.map (·.1))).2]) := g8
      have hl0 : 0 < lenOf T := by rw [hTT]; simp [lenOf]
      have hlt : @decide ((0 : Int) < Int.ofNat (lenOf T)) (Int.decLt _ _) = true := lt_y (by simp; omega)
      have hix : idxA (i64 0) (lenOf T) = some 0 := idxA_at hl0
      have hm0 : Nat.mul 0 1 = 0 := rfl
      rw [hm0, List.drop_zero] at hdr
      generalize (pBounds val (T.map (·.1))) = R at e3 e4 s4 ⊢
      have hl : lim tbl (.loop a76_l0 35 ⟨[2, 3, 6, 13, 14, 15], [6], []⟩ [i64 (Int.ofNat j), .vref [.fn (.func g) [] []], .ptr M 0, ownSl cT pt T, i64 (Int.ofNat (lenOf T)), i64 0]) ⟨na M 1, .cells [i64 0, i64 0] :: Q, p, q⟩
          = some (.exit 0, [.ptr M 0], ⟨M', Q', p, q⟩) := by
        rw [← k5, lim_loop]
        generalize hRR : lim tbl (.loop _ _ _ _) ⟨M1, Q3, p, q⟩ = RR
        (try simp only [go_sem, ↓reduceIte, Nat.reduceAdd, Nat.reduceEqDiff, Nat.reduceLT, Nat.reduceLeDiff, Nat.reduceBEq, Int.reduceEq, Int.reduceLT, Int.reduceLE]); (repeat ((first | rw [hlt] | rw [hix] | rw [hdr] | rw [if_pos hg] | rw [hc] | rw [e1] | rw [s2] | rw [e2] | rw [s3] | (rw [lt_yes]; rotate_left; (first | omega | (simp [lenOf, app]; omega) | (simp only [lenOf]; omega))) | (rw [lt_no]; rotate_left; (first | omega | (simp [lenOf, app]; omega) | (simp only [lenOf]; omega))) | (rw [idxA_at]; rotate_left; (first | omega | (simp [lenOf, app]; omega) | (simp only [lenOf]; omega))) | (rw [wr_up]; rotate_left; (first | omega | (simp [lenOf, app]; omega) | (simp only [lenOf]; omega))) | ((first | rw [drop_cI] | rw [drop_cE] | rw [drop_cS] | rw [drop_cP] | rw [drop_cR]); rotate_left; assumption)); try simp only [go_sem, ↓reduceIte, Nat.reduceAdd, Nat.reduceEqDiff, Nat.reduceLT, Nat.reduceLeDiff, Nat.reduceBEq, Int.reduceEq, Int.reduceLT, Int.reduceLE]))
        exact hRR
      (try simp only [go_sem, ↓reduceIte, Nat.reduceAdd, Nat.reduceEqDiff, Nat.reduceLT, Nat.reduceLeDiff, Nat.reduceBEq, Int.reduceEq, Int.reduceLT, Int.reduceLE]); (repeat ((first | rw [e0] | rw [hl] | rw [e3] | rw [s4] | rw [e4] | (rw [lt_yes]; rotate_left; (first | omega | (simp [lenOf, app]; omega) | (simp only [lenOf]; omega))) | (rw [lt_no]; rotate_left; (first | omega | (simp [lenOf, app]; omega) | (simp only [lenOf]; omega))) | (rw [idxA_at]; rotate_left; (first | omega | (simp [lenOf, app]; omega) | (simp only [lenOf]; omega))) | (rw [wr_up]; rotate_left; (first | omega | (simp [lenOf, app]; omega) | (simp only [lenOf]; omega))) | ((first | rw [drop_cI] | rw [drop_cE] | rw [drop_cS] | rw [drop_cP] | rw [drop_cR]); rotate_left; assumption)); try simp only [go_sem, ↓reduceIte, Nat.reduceAdd, Nat.reduceEqDiff, Nat.reduceLT, Nat.reduceLeDiff, Nat.reduceBEq, Int.reduceEq, Int.reduceLT, Int.reduceLE]))
end
end Go.Proofs.Ytlhfeiacigmliaa

/- The wash-house's soap: what the functions compute: Bounds and Owes. -/
namespace Go.Proofs.Ytlhfeiacigmliaa
open Go
set_option maxRecDepth 10000

@[go_sem] theorem frz1_own_cR (n : Nat) (s : St) (sz p : Nat) (l : List Rng) : frz1 n s sz (ownSl cR p l) = some (sl cR l) := frz1_ownSl (fun _ => rfl) ..
def boundsF (vs : List (Nat → Int)) (j : Nat) : Rng := ⟨(pBounds (fun a => a j) vs).1, (pBounds (fun a => a j) vs).2⟩
def boundsP (vs : List (Nat → Int)) (i k : Nat) : List Rng := (List.range' i k).map (boundsF vs)
theorem l23 (T : List Purse) (hT : T.length < 100000) (pt tw : Nat) (c1 c2 c3 : AVal) (n : Nat) (hn : n ≤ 6) (N : Nat) (O : List AObj) (hN : ∀ x ∈ T, N ≤ x.2) (htN : ∀ x ∈ T, tw ≠ x.2) (p : Nat) (q : Nat → Nat) : ∀ (k i : Nat) (acc : List Rng) (M : Nat) (Q : List AObj), i + k = n → acc.length = i →
    OldO N O M Q → gO M Q tw = some (.cells [c1, c2, c3, ownSl cT pt T]) → MapsOk (fun _ _ => True) T M Q →
    ∃ M' Q', OldO N O M' Q' ∧ lim tbl (.loop a23_l0 33 ⟨[4, 6, 20, 21], [6], []⟩ [.ptr tw 0, ownSl cR p acc, i64 (Int.ofNat n), i64 (Int.ofNat i)]) ⟨M, Q, roomP p (lenOf acc), roomC p q (lenOf acc)⟩
      = some (.exit 0, [ownSl cR p (app acc (boundsP (T.map (·.1)) i k))], ⟨M', Q', roomP p (lenOf (app acc (boundsP (T.map (·.1)) i k))), roomC p q (lenOf (app acc (boundsP (T.map (·.1)) i k)))⟩) := by
  intro k
  induction k with
  | zero =>
    intro i acc M Q hi ha ho htw hm
    refine ⟨M, Q, ho, ?_⟩
    rw [show boundsP (T.map (·.1)) i 0 = [] from rfl, app_nil, lim_loop]
    (try simp only [go_sem, ↓reduceIte, Nat.reduceAdd, Nat.reduceEqDiff, Nat.reduceLT, Nat.reduceLeDiff, Nat.reduceBEq, Int.reduceEq, Int.reduceLT, Int.reduceLE]); (repeat ((first | (rw [lt_yes]; rotate_left; (first | omega | (simp [lenOf, app]; omega) | (simp only [lenOf]; omega))) | (rw [lt_no]; rotate_left; (first | omega | (simp [lenOf, app]; omega) | (simp only [lenOf]; omega))) | (rw [idxA_at]; rotate_left; (first | omega | (simp [lenOf, app]; omega) | (simp only [lenOf]; omega))) | (rw [wr_up]; rotate_left; (first | omega | (simp [lenOf, app]; omega) | (simp only [lenOf]; omega))) | ((first | rw [drop_cI] | rw [drop_cE] | rw [drop_cS] | rw [drop_cP] | rw [drop_cR]); rotate_left; assumption)); try simp only [go_sem, ↓reduceIte, Nat.reduceAdd, Nat.reduceEqDiff, Nat.reduceLT, Nat.reduceLeDiff, Nat.reduceBEq, Int.reduceEq, Int.reduceLT, Int.reduceLE]))
  | succ k ih =>
    intro i acc M Q hi ha ho htw hm
    have hb : boundsP (T.map (·.1)) i (k + 1) = boundsF (T.map (·.1)) i :: boundsP (T.map (·.1)) (i + 1) k := by simp [boundsP, List.range'_succ]
    obtain ⟨M1, Q1, h1, h2, h3, hc⟩ := k76 (fun _ _ => True) T 75 i (fun a => a i) (roomP p (lenOf acc)) (roomC p q (lenOf acc)) (fun x _ M Q hm => ⟨M, Q, Eff.refl hm, by rw [k75 _ _ _ (by omega)]; rfl⟩) (by omega) pt hT tw [] c1 c2 c3 M Q htw hm
    have happ := append_own (f := cR) (sz := 2) (fun _ => rfl) 16 p q M1 Q1 acc (boundsF (T.map (·.1)) i) [i64 (pBounds (fun a => a i) (T.map (·.1))).1, i64 (pBounds (fun a => a i) (T.map (·.1))).2] rfl .full (by omega) (by omega)
    obtain ⟨M', Q', h4, h'⟩ := ih (i + 1) (app acc [boundsF (T.map (·.1)) i]) M1 Q1 (by omega) (by simp [app]; omega) (h2 _ _ hN ho) (h1 _ _ htN htw) h3
    refine ⟨M', Q', h4, ?_⟩
    rw [hb, app_assoc, lim_loop]
    generalize hR : some (_, _, _) = R at h' ⊢
    (try simp only [go_sem, ↓reduceIte, Nat.reduceAdd, Nat.reduceEqDiff, Nat.reduceLT, Nat.reduceLeDiff, Nat.reduceBEq, Int.reduceEq, Int.reduceLT, Int.reduceLE]); (repeat ((first | rw [hc] | rw [happ] | (rw [lt_yes]; rotate_left; (first | omega | (simp [lenOf, app]; omega) | (simp only [lenOf]; omega))) | (rw [lt_no]; rotate_left; (first | omega | (simp [lenOf, app]; omega) | (simp only [lenOf]; omega))) | (rw [idxA_at]; rotate_left; (first | omega | (simp [lenOf, app]; omega) | (simp only [lenOf]; omega))) | (rw [wr_up]; rotate_left; (first | omega | (simp [lenOf, app]; omega) | (simp only [lenOf]; omega))) | ((first | rw [drop_cI] | rw [drop_cE] | rw [drop_cS] | rw [drop_cP] | rw [drop_cR]); rotate_left; assumption)); try simp only [go_sem, ↓reduceIte, Nat.reduceAdd, Nat.reduceEqDiff, Nat.reduceLT, Nat.reduceLeDiff, Nat.reduceBEq, Int.reduceEq, Int.reduceLT, Int.reduceLE]))
    exact h'
/-- What Bounds returns. -/
def askedErr (S : Slate) : Int := if checkSlate S ≠ 0 then checkSlate S else if asked S = [] then 11 else 0
def boundsL (S : Slate) : List Rng := if askedErr S = 0 then boundsP (asked S) 0 S.women.toNat else []
theorem k23 (S : Slate) (s : St) : lim tbl (.call 23 [vSl S]) s = some (.ret, [.tup [sl cR (boundsL S), i64 (askedErr S)]], s) := by
  rw [lim_call tbl_23]
  by_cases hc : checkSlate S = 0
  · have hG := good_of_check hc
    obtain ⟨N, O, p, q⟩ := s
    obtain ⟨T, M, Q, hv, ho, htw, hm, hnd, hTl, h74⟩ := k74 S hc N O p q
    by_cases hz : asked S = []
    · have he : askedErr S = 11 := by simp [askedErr, hc, hz]
      have hb : boundsL S = [] := by simp [boundsL, he]
      rw [if_pos hz] at h74
      rw [he, hb]
      have hold := ho.oldr p q (roomP p (lenOf T)) (lenOf T)
      obtain ⟨w, es, ss⟩ := S
      (try simp only [go_sem, ↓reduceIte, Nat.reduceAdd, Nat.reduceEqDiff, Nat.reduceLT, Nat.reduceLeDiff, Nat.reduceBEq, Int.reduceEq, Int.reduceLT, Int.reduceLE]); (repeat ((first | rw [h74] | rw [hold] | (rw [lt_yes]; rotate_left; (first | omega | (simp [lenOf, app]; omega) | (simp only [lenOf]; omega))) | (rw [lt_no]; rotate_left; (first | omega | (simp [lenOf, app]; omega) | (simp only [lenOf]; omega))) | (rw [idxA_at]; rotate_left; (first | omega | (simp [lenOf, app]; omega) | (simp only [lenOf]; omega))) | (rw [wr_up]; rotate_left; (first | omega | (simp [lenOf, app]; omega) | (simp only [lenOf]; omega))) | ((first | rw [drop_cI] | rw [drop_cE] | rw [drop_cS] | rw [drop_cP] | rw [drop_cR]); rotate_left; assumption)); try simp only [go_sem, ↓reduceIte, Nat.reduceAdd, Nat.reduceEqDiff, Nat.reduceLT, Nat.reduceLeDiff, Nat.reduceBEq, Int.reduceEq, Int.reduceLT, Int.reduceLE]))
    · have he : askedErr S = 0 := by simp [askedErr, hc, hz]
      have hb : boundsL S = boundsP (asked S) 0 S.women.toNat := by simp [boundsL, he]
      rw [if_neg hz] at h74
      rw [he, hb]
      have hw0 := hG.w0
      have hw6 := hG.w6
      obtain ⟨w, es, ss⟩ := S
      simp only at hw0 hw6 htw ⊢
      obtain ⟨n, rfl⟩ : ∃ n : Nat, w = Int.ofNat n := ⟨w.toNat, by simp; omega⟩
      have hn : n ≤ 6 := by change (n : Int) ≤ 6 at hw6; omega
      simp only [show (Int.ofNat n).toNat = n from rfl]
      have hm' : MapsOk (fun _ _ => True) T M Q := fun x hx => ⟨[], (hm x hx).2, trivial⟩
      obtain ⟨M', Q', ho', h0⟩ := l23 T hTl p N (i64 (Int.ofNat n)) (sl cE es) (sl cS ss) n hn N O (fun x hx => Nat.le_of_lt (hm x hx).1) (fun x hx => Nat.ne_of_lt (hm x hx).1) (roomP p (lenOf T)) (roomC p q (lenOf T)) n 0 [] M Q (by omega) rfl ho htw hm'
      rw [nil_app, ownSl_nil, show lenOf ([] : List Rng) = 0 from rfl, roomP_0, roomC_0, ofNat_0, hv] at h0
      have e1 : ∀ p' q', St.get ⟨M, Q, p', q'⟩ N = some (.cells [i64 (Int.ofNat n), sl cE es, sl cS ss, ownSl cT p T]) := fun _ _ => htw
      generalize boundsP (asked ⟨Int.ofNat n, es, ss⟩) 0 n = B at h0 ⊢
      have hold : Ytlhfeiacigmliaa.old ⟨N, O, p, q⟩ ⟨M', Q', roomP (roomP p (lenOf T)) (lenOf B), roomC (roomP p (lenOf T)) (roomC p q (lenOf T)) (lenOf B)⟩ = true := by
        simp only [Ytlhfeiacigmliaa.old, decide_eq_true_eq]
        exact ⟨ho'.1, ho'.2, fun x hx => roomC_old2 p q _ _ x hx⟩
      (try simp only [go_sem, ↓reduceIte, Nat.reduceAdd, Nat.reduceEqDiff, Nat.reduceLT, Nat.reduceLeDiff, Nat.reduceBEq, Int.reduceEq, Int.reduceLT, Int.reduceLE]); (repeat ((first | rw [h74] | rw [e1] | rw [h0] | rw [hold] | (rw [lt_yes]; rotate_left; (first | omega | (simp [lenOf, app]; omega) | (simp only [lenOf]; omega))) | (rw [lt_no]; rotate_left; (first | omega | (simp [lenOf, app]; omega) | (simp only [lenOf]; omega))) | (rw [idxA_at]; rotate_left; (first | omega | (simp [lenOf, app]; omega) | (simp only [lenOf]; omega))) | (rw [wr_up]; rotate_left; (first | omega | (simp [lenOf, app]; omega) | (simp only [lenOf]; omega))) | ((first | rw [drop_cI] | rw [drop_cE] | rw [drop_cS] | rw [drop_cP] | rw [drop_cR]); rotate_left; assumption)); try simp only [go_sem, ↓reduceIte, Nat.reduceAdd, Nat.reduceEqDiff, Nat.reduceLT, Nat.reduceLeDiff, Nat.reduceBEq, Int.reduceEq, Int.reduceLT, Int.reduceLE]))
  · have he : askedErr S = checkSlate S := by simp [askedErr, hc]
    have hb : boundsL S = [] := by simp [boundsL, he, hc]
    have h74 := fun s => k74n S hc s
    rw [he, hb]
    generalize checkSlate S = c at h74 hc ⊢
    obtain ⟨w, es, ss⟩ := S
    obtain ⟨N, O, p, q⟩ := s
    (try simp only [go_sem, ↓reduceIte, Nat.reduceAdd, Nat.reduceEqDiff, Nat.reduceLT, Nat.reduceLeDiff, Nat.reduceBEq, Int.reduceEq, Int.reduceLT, Int.reduceLE]); (repeat ((first | simp only [h74] | rw [eq_n hc] | (rw [lt_yes]; rotate_left; (first | omega | (simp [lenOf, app]; omega) | (simp only [lenOf]; omega))) | (rw [lt_no]; rotate_left; (first | omega | (simp [lenOf, app]; omega) | (simp only [lenOf]; omega))) | (rw [idxA_at]; rotate_left; (first | omega | (simp [lenOf, app]; omega) | (simp only [lenOf]; omega))) | (rw [wr_up]; rotate_left; (first | omega | (simp [lenOf, app]; omega) | (simp only [lenOf]; omega))) | ((first | rw [drop_cI] | rw [drop_cE] | rw [drop_cS] | rw [drop_cP] | rw [drop_cR]); rotate_left; assumption)); try simp only [go_sem, ↓reduceIte, Nat.reduceAdd, Nat.reduceEqDiff, Nat.reduceLT, Nat.reduceLeDiff, Nat.reduceBEq, Int.reduceEq, Int.reduceLT, Int.reduceLE]))

def owesF (r : Rng) : Int := if r.hi < 0 then 1 else if 0 ≤ r.lo then 2 else 3
theorem l25 (R : List Rng) (hl : R.length < 100000) (p : Nat) (q : Nat → Nat) : ∀ (k i : Nat) (acc : List Int) (N : Nat) (O : List AObj), i + k = R.length → acc.length = i →
    ∃ M Q, Ext N O M Q ∧ lim tbl (.loop a25_l0 38 ⟨[6, 18, 19, 20], [6], []⟩ [ownSl cI p acc, sl cR R, i64 (Int.ofNat (lenOf R)), i64 (Int.ofNat i)]) ⟨N, O, roomP p (lenOf acc), roomC p q (lenOf acc)⟩
      = some (.exit 0, [ownSl cI p (app acc ((R.drop i).map owesF))], ⟨M, Q, roomP p (lenOf (app acc ((R.drop i).map owesF))), roomC p q (lenOf (app acc ((R.drop i).map owesF)))⟩) := by
  intro k
  induction k with
  | zero =>
    intro i acc N O hi ha
    refine ⟨N, O, Ext.refl .., ?_⟩
    rw [List.drop_eq_nil_of_le (by omega), List.map_nil, app_nil, lim_loop]
    (try simp only [go_sem, ↓reduceIte, Nat.reduceAdd, Nat.reduceEqDiff, Nat.reduceLT, Nat.reduceLeDiff, Nat.reduceBEq, Int.reduceEq, Int.reduceLT, Int.reduceLE]); (repeat ((first | (rw [lt_yes]; rotate_left; (first | omega | (simp [lenOf, app]; omega) | (simp only [lenOf]; omega))) | (rw [lt_no]; rotate_left; (first | omega | (simp [lenOf, app]; omega) | (simp only [lenOf]; omega))) | (rw [idxA_at]; rotate_left; (first | omega | (simp [lenOf, app]; omega) | (simp only [lenOf]; omega))) | (rw [wr_up]; rotate_left; (first | omega | (simp [lenOf, app]; omega) | (simp only [lenOf]; omega))) | ((first | rw [drop_cI] | rw [drop_cE] | rw [drop_cS] | rw [drop_cP] | rw [drop_cR]); rotate_left; assumption)); try simp only [go_sem, ↓reduceIte, Nat.reduceAdd, Nat.reduceEqDiff, Nat.reduceLT, Nat.reduceLeDiff, Nat.reduceBEq, Int.reduceEq, Int.reduceLT, Int.reduceLE]))
  | succ k ih =>
    intro i acc N O hi ha
    have hlt : i < R.length := by omega
    obtain ⟨r, hr, hd⟩ := getElem_drop hlt
    obtain ⟨lo, hi'⟩ := r
    rw [hd, List.map_cons, app_assoc]
    obtain ⟨M, Q, hx, h'⟩ := ih (i + 1) (app acc [owesF ⟨lo, hi'⟩]) (na N 1) (.cells [i64 lo, i64 hi'] :: O) (by omega) (by simp [app]; omega)
    refine ⟨M, Q, hx.push, ?_⟩
    have happ := append_own (f := cI) (sz := 1) (fun _ => rfl) 8 p q (na N 1) (.cells [i64 lo, i64 hi'] :: O) acc (owesF ⟨lo, hi'⟩) [i64 (owesF ⟨lo, hi'⟩)] rfl .full (by omega) (by omega)
    rw [lim_loop]
    generalize hRR : some (_, _, _) = RR at h' ⊢
    by_cases h1 : hi' < 0
    · have hf : owesF ⟨lo, hi'⟩ = 1 := by simp [owesF, h1]
      rw [hf] at happ h'
      (try simp only [go_sem, ↓reduceIte, Nat.reduceAdd, Nat.reduceEqDiff, Nat.reduceLT, Nat.reduceLeDiff, Nat.reduceBEq, Int.reduceEq, Int.reduceLT, Int.reduceLE]); (repeat ((first | rw [lt_y h1] | rw [happ] | (rw [lt_yes]; rotate_left; (first | omega | (simp [lenOf, app]; omega) | (simp only [lenOf]; omega))) | (rw [lt_no]; rotate_left; (first | omega | (simp [lenOf, app]; omega) | (simp only [lenOf]; omega))) | (rw [idxA_at]; rotate_left; (first | omega | (simp [lenOf, app]; omega) | (simp only [lenOf]; omega))) | (rw [wr_up]; rotate_left; (first | omega | (simp [lenOf, app]; omega) | (simp only [lenOf]; omega))) | ((first | rw [drop_cI] | rw [drop_cE] | rw [drop_cS] | rw [drop_cP] | rw [drop_cR]); rotate_left; assumption)); try simp only [go_sem, ↓reduceIte, Nat.reduceAdd, Nat.reduceEqDiff, Nat.reduceLT, Nat.reduceLeDiff, Nat.reduceBEq, Int.reduceEq, Int.reduceLT, Int.reduceLE]))
      exact h'
    · by_cases h2 : (0 : Int) ≤ lo
      · have hf : owesF ⟨lo, hi'⟩ = 2 := by simp [owesF, h1, h2]
        rw [hf] at happ h'
        (try simp only [go_sem, ↓reduceIte, Nat.reduceAdd, Nat.reduceEqDiff, Nat.reduceLT, Nat.reduceLeDiff, Nat.reduceBEq, Int.reduceEq, Int.reduceLT, Int.reduceLE]); (repeat ((first | rw [lt_n h1] | rw [le_y h2] | rw [happ] | (rw [lt_yes]; rotate_left; (first | omega | (simp [lenOf, app]; omega) | (simp only [lenOf]; omega))) | (rw [lt_no]; rotate_left; (first | omega | (simp [lenOf, app]; omega) | (simp only [lenOf]; omega))) | (rw [idxA_at]; rotate_left; (first | omega | (simp [lenOf, app]; omega) | (simp only [lenOf]; omega))) | (rw [wr_up]; rotate_left; (first | omega | (simp [lenOf, app]; omega) | (simp only [lenOf]; omega))) | ((first | rw [drop_cI] | rw [drop_cE] | rw [drop_cS] | rw [drop_cP] | rw [drop_cR]); rotate_left; assumption)); try simp only [go_sem, ↓reduceIte, Nat.reduceAdd, Nat.reduceEqDiff, Nat.reduceLT, Nat.reduceLeDiff, Nat.reduceBEq, Int.reduceEq, Int.reduceLT, Int.reduceLE]))
        exact h'
      · have hf : owesF ⟨lo, hi'⟩ = 3 := by simp [owesF, h1, h2]
        rw [hf] at happ h'
        (try simp only [go_sem, ↓reduceIte, Nat.reduceAdd, Nat.reduceEqDiff, Nat.reduceLT, Nat.reduceLeDiff, Nat.reduceBEq, Int.reduceEq, Int.reduceLT, Int.reduceLE]); (repeat ((first | rw [lt_n h1] | rw [le_n h2] | rw [happ] | (rw [lt_yes]; rotate_left; (first | omega | (simp [lenOf, app]; omega) | (simp only [lenOf]; omega))) | (rw [lt_no]; rotate_left; (first | omega | (simp [lenOf, app]; omega) | (simp only [lenOf]; omega))) | (rw [idxA_at]; rotate_left; (first | omega | (simp [lenOf, app]; omega) | (simp only [lenOf]; omega))) | (rw [wr_up]; rotate_left; (first | omega | (simp [lenOf, app]; omega) | (simp only [lenOf]; omega))) | ((first | rw [drop_cI] | rw [drop_cE] | rw [drop_cS] | rw [drop_cP] | rw [drop_cR]); rotate_left; assumption)); try simp only [go_sem, ↓reduceIte, Nat.reduceAdd, Nat.reduceEqDiff, Nat.reduceLT, Nat.reduceLeDiff, Nat.reduceBEq, Int.reduceEq, Int.reduceLT, Int.reduceLE]))
        exact h'
theorem k25 (S : Slate) (s : St) : lim tbl (.call 25 [vSl S]) s = some (.ret, [.tup [sl cI ((boundsL S).map owesF), i64 (askedErr S)]], s) := by
  have h23 := fun s => k23 S s
  rw [lim_call tbl_25]
  by_cases he : askedErr S = 0
  · have hl : (boundsL S).length < 100000 := by
      by_cases hc : checkSlate S = 0
      · have hG := good_of_check hc
        have := hG.w6
        rw [boundsL, if_pos he, boundsP, List.length_map, List.length_range']; omega
      · rw [askedErr, if_pos hc] at he; exact absurd he hc
    obtain ⟨N, O, p, q⟩ := s
    obtain ⟨M, Q, hx, h0⟩ := l25 (boundsL S) hl p q (boundsL S).length 0 [] N O (by omega) rfl
    rw [List.drop_zero, nil_app, ownSl_nil, show lenOf ([] : List Int) = 0 from rfl, roomP_0, roomC_0, ofNat_0] at h0
    rw [he] at h23 ⊢
    generalize (boundsL S).map owesF = V at h0 ⊢
    generalize boundsL S = R at h0 h23
    have hold := hx.old p q (roomP p (lenOf V)) (lenOf V)
    obtain ⟨w, es, ss⟩ := S
    (try simp only [go_sem, ↓reduceIte, Nat.reduceAdd, Nat.reduceEqDiff, Nat.reduceLT, Nat.reduceLeDiff, Nat.reduceBEq, Int.reduceEq, Int.reduceLT, Int.reduceLE]); (repeat ((first | simp only [h23] | rw [h0] | rw [hold] | (rw [lt_yes]; rotate_left; (first | omega | (simp [lenOf, app]; omega) | (simp only [lenOf]; omega))) | (rw [lt_no]; rotate_left; (first | omega | (simp [lenOf, app]; omega) | (simp only [lenOf]; omega))) | (rw [idxA_at]; rotate_left; (first | omega | (simp [lenOf, app]; omega) | (simp only [lenOf]; omega))) | (rw [wr_up]; rotate_left; (first | omega | (simp [lenOf, app]; omega) | (simp only [lenOf]; omega))) | ((first | rw [drop_cI] | rw [drop_cE] | rw [drop_cS] | rw [drop_cP] | rw [drop_cR]); rotate_left; assumption)); try simp only [go_sem, ↓reduceIte, Nat.reduceAdd, Nat.reduceEqDiff, Nat.reduceLT, Nat.reduceLeDiff, Nat.reduceBEq, Int.reduceEq, Int.reduceLT, Int.reduceLE]))
  · have hb : boundsL S = [] := by simp [boundsL, he]
    rw [hb] at h23 ⊢
    simp only [List.map_nil]
    generalize askedErr S = c at h23 he ⊢
    obtain ⟨w, es, ss⟩ := S
    obtain ⟨N, O, p, q⟩ := s
    (try simp only [go_sem, ↓reduceIte, Nat.reduceAdd, Nat.reduceEqDiff, Nat.reduceLT, Nat.reduceLeDiff, Nat.reduceBEq, Int.reduceEq, Int.reduceLT, Int.reduceLE]); (repeat ((first | simp only [h23] | rw [eq_n he] | (rw [lt_yes]; rotate_left; (first | omega | (simp [lenOf, app]; omega) | (simp only [lenOf]; omega))) | (rw [lt_no]; rotate_left; (first | omega | (simp [lenOf, app]; omega) | (simp only [lenOf]; omega))) | (rw [idxA_at]; rotate_left; (first | omega | (simp [lenOf, app]; omega) | (simp only [lenOf]; omega))) | (rw [wr_up]; rotate_left; (first | omega | (simp [lenOf, app]; omega) | (simp only [lenOf]; omega))) | ((first | rw [drop_cI] | rw [drop_cE] | rw [drop_cS] | rw [drop_cP] | rw [drop_cR]); rotate_left; assumption)); try simp only [go_sem, ↓reduceIte, Nat.reduceAdd, Nat.reduceEqDiff, Nat.reduceLT, Nat.reduceLeDiff, Nat.reduceBEq, Int.reduceEq, Int.reduceLT, Int.reduceLE]))
end Go.Proofs.Ytlhfeiacigmliaa

/- The wash-house's soap: what the functions compute: a purse's groups, how many. -/
namespace Go.Proofs.Ytlhfeiacigmliaa
open Go
set_option maxRecDepth 10000

theorem part_c6 {j : Nat} (a : Nat → Int) (h : j < 6) : partA false (c6 a) (Nat.mul j 1) 1 = some (i64 (a j)) := by
  rw [show Nat.mul j 1 = j from Nat.mul_one j]
  match j, h with
  | 0, _ | 1, _ | 2, _ | 3, _ | 4, _ | 5, _ => rfl
theorem mx_nat (a b : Nat) : mx (Int.ofNat a) (Int.ofNat b) = Int.ofNat (max a b) := by
  simp only [mx, Int.ofNat_eq_natCast]; omega

def openUp (a : Nat → Int) (n : Nat) : Nat → Nat → Nat
  | _, 0 => n
  | i, k + 1 => openUp a (if a i = 0 then n else bor n (pw i)) (i + 1) k
def openN (a : Nat → Int) : Nat := openUp a 0 0 6
theorem l110 (a : Nat → Int) (s : St) : ∀ (k i n : Nat), i + k = 6 → n < pw i →
    lim tbl (.loop a110_l0 21 ⟨[2, 8, 9], [2], []⟩ [i64 (Int.ofNat n), .agg (c6 a), i64 (Int.ofNat i)]) s = some (.exit 0, [i64 (Int.ofNat (openUp a n i k))], s) := by
  intro k
  induction k with
  | zero =>
    intro i n hi hn
    have h6 : ¬ Int.ofNat i < 6 := by simp; omega
    rw [openUp, lim_loop]
    obtain ⟨N, O, p, q⟩ := s
    (try simp only [go_sem, ↓reduceIte, Nat.reduceAdd, Nat.reduceEqDiff, Nat.reduceLT, Nat.reduceLeDiff, Nat.reduceBEq, Int.reduceEq, Int.reduceLT, Int.reduceLE]); (repeat ((first | rw [lt_n h6] | (rw [lt_yes]; rotate_left; (first | omega | (simp [lenOf, app]; omega) | (simp only [lenOf]; omega))) | (rw [lt_no]; rotate_left; (first | omega | (simp [lenOf, app]; omega) | (simp only [lenOf]; omega))) | (rw [idxA_at]; rotate_left; (first | omega | (simp [lenOf, app]; omega) | (simp only [lenOf]; omega))) | (rw [wr_up]; rotate_left; (first | omega | (simp [lenOf, app]; omega) | (simp only [lenOf]; omega))) | ((first | rw [drop_cI] | rw [drop_cE] | rw [drop_cS] | rw [drop_cP] | rw [drop_cR]); rotate_left; assumption)); try simp only [go_sem, ↓reduceIte, Nat.reduceAdd, Nat.reduceEqDiff, Nat.reduceLT, Nat.reduceLeDiff, Nat.reduceBEq, Int.reduceEq, Int.reduceLT, Int.reduceLE]))
  | succ k ih =>
    intro i n hi hn
    have h6 : Int.ofNat i < 6 := by simp; omega
    have hp := part_c6 a (j := i) (by omega)
    have hpw : pw i < 9223372036854775808 := pw_lt (by omega)
    have hix : idxA (i64 (Int.ofNat i)) 6 = some i := idxA_at (by omega)
    rw [openUp]
    by_cases hz : a i = 0
    · have h' := ih (i + 1) n (by omega) (pw_le hn)
      rw [if_pos hz, lim_loop]
      generalize hR : some (_, _, _) = R at h' ⊢
      obtain ⟨N, O, p, q⟩ := s
      (try simp only [go_sem, ↓reduceIte, Nat.reduceAdd, Nat.reduceEqDiff, Nat.reduceLT, Nat.reduceLeDiff, Nat.reduceBEq, Int.reduceEq, Int.reduceLT, Int.reduceLE]); (repeat ((first | rw [lt_y h6] | rw [hix] | rw [hp] | rw [eq_y hz] | (rw [lt_yes]; rotate_left; (first | omega | (simp [lenOf, app]; omega) | (simp only [lenOf]; omega))) | (rw [lt_no]; rotate_left; (first | omega | (simp [lenOf, app]; omega) | (simp only [lenOf]; omega))) | (rw [idxA_at]; rotate_left; (first | omega | (simp [lenOf, app]; omega) | (simp only [lenOf]; omega))) | (rw [wr_up]; rotate_left; (first | omega | (simp [lenOf, app]; omega) | (simp only [lenOf]; omega))) | ((first | rw [drop_cI] | rw [drop_cE] | rw [drop_cS] | rw [drop_cP] | rw [drop_cR]); rotate_left; assumption)); try simp only [go_sem, ↓reduceIte, Nat.reduceAdd, Nat.reduceEqDiff, Nat.reduceLT, Nat.reduceLeDiff, Nat.reduceBEq, Int.reduceEq, Int.reduceLT, Int.reduceLE]))
      exact h'
    · have h' := ih (i + 1) (bor n (pw i)) (by omega) (bor_lt hn)
      rw [if_neg hz, lim_loop]
      generalize hR : some (_, _, _) = R at h' ⊢
      obtain ⟨N, O, p, q⟩ := s
      (try simp only [go_sem, ↓reduceIte, Nat.reduceAdd, Nat.reduceEqDiff, Nat.reduceLT, Nat.reduceLeDiff, Nat.reduceBEq, Int.reduceEq, Int.reduceLT, Int.reduceLE]); (repeat ((first | rw [lt_y h6] | rw [hix] | rw [hp] | rw [eq_n hz] | (rw [shl1_at]; rotate_left; (omega)) | (rw [bits_or]; rotate_left; (omega; omega)) | (rw [lt_yes]; rotate_left; (first | omega | (simp [lenOf, app]; omega) | (simp only [lenOf]; omega))) | (rw [lt_no]; rotate_left; (first | omega | (simp [lenOf, app]; omega) | (simp only [lenOf]; omega))) | (rw [idxA_at]; rotate_left; (first | omega | (simp [lenOf, app]; omega) | (simp only [lenOf]; omega))) | (rw [wr_up]; rotate_left; (first | omega | (simp [lenOf, app]; omega) | (simp only [lenOf]; omega))) | ((first | rw [drop_cI] | rw [drop_cE] | rw [drop_cS] | rw [drop_cP] | rw [drop_cR]); rotate_left; assumption)); try simp only [go_sem, ↓reduceIte, Nat.reduceAdd, Nat.reduceEqDiff, Nat.reduceLT, Nat.reduceLeDiff, Nat.reduceBEq, Int.reduceEq, Int.reduceLT, Int.reduceLE]))
      exact h'
theorem k110 (a : Nat → Int) (m : Nat) (s : St) : lim tbl (.call 110 [.vref (c7 a m)]) s = some (.ret, [i64 (Int.ofNat (openN a))], s) := by
  rw [lim_call tbl_110]
  have h0 := l110 a s 6 0 0 (by omega) (by simp [pw])
  rw [ofNat_0] at h0
  change _ = some (_, [i64 (Int.ofNat (openN a))], _) at h0
  obtain ⟨N, O, p, q⟩ := s
  (try simp only [go_sem, ↓reduceIte, Nat.reduceAdd, Nat.reduceEqDiff, Nat.reduceLT, Nat.reduceLeDiff, Nat.reduceBEq, Int.reduceEq, Int.reduceLT, Int.reduceLE]); (repeat ((first | rw [h0] | (rw [lt_yes]; rotate_left; (first | omega | (simp [lenOf, app]; omega) | (simp only [lenOf]; omega))) | (rw [lt_no]; rotate_left; (first | omega | (simp [lenOf, app]; omega) | (simp only [lenOf]; omega))) | (rw [idxA_at]; rotate_left; (first | omega | (simp [lenOf, app]; omega) | (simp only [lenOf]; omega))) | (rw [wr_up]; rotate_left; (first | omega | (simp [lenOf, app]; omega) | (simp only [lenOf]; omega))) | ((first | rw [drop_cI] | rw [drop_cE] | rw [drop_cS] | rw [drop_cP] | rw [drop_cR]); rotate_left; assumption)); try simp only [go_sem, ↓reduceIte, Nat.reduceAdd, Nat.reduceEqDiff, Nat.reduceLT, Nat.reduceLeDiff, Nat.reduceBEq, Int.reduceEq, Int.reduceLT, Int.reduceLE]))
theorem openUp_lt (a : Nat → Int) : ∀ (k i n : Nat), n < pw i → openUp a n i k < pw (i + k)
  | 0, i, n, h => h
  | k + 1, i, n, h => by
    rw [openUp, show i + (k + 1) = (i + 1) + k by omega]
    apply openUp_lt
    split
    · exact pw_le h
    · exact bor_lt h
theorem openN_lt (a : Nat → Int) : openN a < 64 := openUp_lt a 6 0 0 (by simp [pw])

def sumUp (a : Nat → Int) (w : Nat) (n : Int) : Nat → Nat → Int
  | _, 0 => n
  | i, k + 1 => sumUp a w (if bmod (bshr w i) 2 = 1 then wr .i64 (Int.add n (a i)) else n) (i + 1) k
def sumA (a : Nat → Int) (w : Nat) : Int := sumUp a w 0 0 6
theorem l111 (a : Nat → Int) (w : Nat) (N : Nat) (O : List AObj) (o : AObj) (p : Nat) (q : Nat → Nat) : ∀ (k i : Nat) (n : Int), i + k = 6 →
    lim tbl (.loop a111_l0 30 ⟨[1, 4, 5, 13, 14], [4, 5], []⟩ [i64 (Int.ofNat w), .ptr N 0, .ptr (na N 1) 0, .agg (c6 a), i64 (Int.ofNat i)]) ⟨na (na N 1) 1, .cells [i64 (Int.ofNat w), i64 n] :: o :: O, p, q⟩
      = some (.exit 0, [.ptr N 0, .ptr (na N 1) 0], ⟨na (na N 1) 1, .cells [i64 (Int.ofNat w), i64 (sumUp a w n i k)] :: o :: O, p, q⟩) := by
  intro k
  induction k with
  | zero =>
    intro i n hi
    have h6 : ¬ Int.ofNat i < 6 := by simp; omega
    rw [sumUp, lim_loop]
    (try simp only [go_sem, ↓reduceIte, Nat.reduceAdd, Nat.reduceEqDiff, Nat.reduceLT, Nat.reduceLeDiff, Nat.reduceBEq, Int.reduceEq, Int.reduceLT, Int.reduceLE]); (repeat ((first | rw [lt_n h6] | (rw [lt_yes]; rotate_left; (first | omega | (simp [lenOf, app]; omega) | (simp only [lenOf]; omega))) | (rw [lt_no]; rotate_left; (first | omega | (simp [lenOf, app]; omega) | (simp only [lenOf]; omega))) | (rw [idxA_at]; rotate_left; (first | omega | (simp [lenOf, app]; omega) | (simp only [lenOf]; omega))) | (rw [wr_up]; rotate_left; (first | omega | (simp [lenOf, app]; omega) | (simp only [lenOf]; omega))) | ((first | rw [drop_cI] | rw [drop_cE] | rw [drop_cS] | rw [drop_cP] | rw [drop_cR]); rotate_left; assumption)); try simp only [go_sem, ↓reduceIte, Nat.reduceAdd, Nat.reduceEqDiff, Nat.reduceLT, Nat.reduceLeDiff, Nat.reduceBEq, Int.reduceEq, Int.reduceLT, Int.reduceLE]))
  | succ k ih =>
    intro i n hi
    have h6 : Int.ofNat i < 6 := by simp; omega
    have hp := part_c6 a (j := i) (by omega)
    have hix : idxA (i64 (Int.ofNat i)) 6 = some i := idxA_at (by omega)
    have hs : shrI (Int.ofNat w) (Int.ofNat i) = some (i64 (Int.ofNat (bshr w i))) := shr_at (by omega)
    have hr : remI (Int.ofNat (bshr w i)) 2 = some (i64 (Int.ofNat (bmod (bshr w i) 2))) := rem2_at _
    rw [sumUp]
    by_cases ht : bmod (bshr w i) 2 = 1
    · have h' := ih (i + 1) (wr .i64 (Int.add n (a i))) (by omega)
      rw [ht] at hr
      rw [if_pos ht, lim_loop]
      generalize hR : some (_, _, _) = R at h' ⊢
      (try simp only [go_sem, ↓reduceIte, Nat.reduceAdd, Nat.reduceEqDiff, Nat.reduceLT, Nat.reduceLeDiff, Nat.reduceBEq, Int.reduceEq, Int.reduceLT, Int.reduceLE]); (repeat ((first | rw [lt_y h6] | rw [hix] | rw [hp] | rw [hs] | rw [hr] | (rw [lt_yes]; rotate_left; (first | omega | (simp [lenOf, app]; omega) | (simp only [lenOf]; omega))) | (rw [lt_no]; rotate_left; (first | omega | (simp [lenOf, app]; omega) | (simp only [lenOf]; omega))) | (rw [idxA_at]; rotate_left; (first | omega | (simp [lenOf, app]; omega) | (simp only [lenOf]; omega))) | (rw [wr_up]; rotate_left; (first | omega | (simp [lenOf, app]; omega) | (simp only [lenOf]; omega))) | ((first | rw [drop_cI] | rw [drop_cE] | rw [drop_cS] | rw [drop_cP] | rw [drop_cR]); rotate_left; assumption)); try simp only [go_sem, ↓reduceIte, Nat.reduceAdd, Nat.reduceEqDiff, Nat.reduceLT, Nat.reduceLeDiff, Nat.reduceBEq, Int.reduceEq, Int.reduceLT, Int.reduceLE]))
      exact h'
    · have h' := ih (i + 1) n (by omega)
      have ht0 : bmod (bshr w i) 2 = 0 := by unfold bmod at *; omega
      rw [ht0] at hr
      rw [if_neg ht, lim_loop]
      generalize hR : some (_, _, _) = R at h' ⊢
      (try simp only [go_sem, ↓reduceIte, Nat.reduceAdd, Nat.reduceEqDiff, Nat.reduceLT, Nat.reduceLeDiff, Nat.reduceBEq, Int.reduceEq, Int.reduceLT, Int.reduceLE]); (repeat ((first | rw [lt_y h6] | rw [hix] | rw [hp] | rw [hs] | rw [hr] | (rw [lt_yes]; rotate_left; (first | omega | (simp [lenOf, app]; omega) | (simp only [lenOf]; omega))) | (rw [lt_no]; rotate_left; (first | omega | (simp [lenOf, app]; omega) | (simp only [lenOf]; omega))) | (rw [idxA_at]; rotate_left; (first | omega | (simp [lenOf, app]; omega) | (simp only [lenOf]; omega))) | (rw [wr_up]; rotate_left; (first | omega | (simp [lenOf, app]; omega) | (simp only [lenOf]; omega))) | ((first | rw [drop_cI] | rw [drop_cE] | rw [drop_cS] | rw [drop_cP] | rw [drop_cR]); rotate_left; assumption)); try simp only [go_sem, ↓reduceIte, Nat.reduceAdd, Nat.reduceEqDiff, Nat.reduceLT, Nat.reduceLeDiff, Nat.reduceBEq, Int.reduceEq, Int.reduceLT, Int.reduceLE]))
      exact h'
theorem k111 (a : Nat → Int) (m w : Nat) (s : St) : lim tbl (.call 111 [.vref (c7 a m), i64 (Int.ofNat w)]) s = some (.ret, [.agg [i64 (Int.ofNat w), i64 (sumA a w)]], s) := by
  rw [lim_call tbl_111]
  obtain ⟨N, O, p, q⟩ := s
  have h0 := l111 a w N O (.cells [i64 0, i64 0]) p q 6 0 0 (by omega)
  rw [ofNat_0] at h0
  change _ = some (_, _, (⟨_, .cells [_, i64 (sumA a w)] :: _, _, _⟩ : St)) at h0
  (try simp only [go_sem, ↓reduceIte, Nat.reduceAdd, Nat.reduceEqDiff, Nat.reduceLT, Nat.reduceLeDiff, Nat.reduceBEq, Int.reduceEq, Int.reduceLT, Int.reduceLE]); (repeat ((first | rw [h0] | (rw [lt_yes]; rotate_left; (first | omega | (simp [lenOf, app]; omega) | (simp only [lenOf]; omega))) | (rw [lt_no]; rotate_left; (first | omega | (simp [lenOf, app]; omega) | (simp only [lenOf]; omega))) | (rw [idxA_at]; rotate_left; (first | omega | (simp [lenOf, app]; omega) | (simp only [lenOf]; omega))) | (rw [wr_up]; rotate_left; (first | omega | (simp [lenOf, app]; omega) | (simp only [lenOf]; omega))) | ((first | rw [drop_cI] | rw [drop_cE] | rw [drop_cS] | rw [drop_cP] | rw [drop_cR]); rotate_left; assumption)); try simp only [go_sem, ↓reduceIte, Nat.reduceAdd, Nat.reduceEqDiff, Nat.reduceLT, Nat.reduceLeDiff, Nat.reduceBEq, Int.reduceEq, Int.reduceLT, Int.reduceLE]))

theorem l113 (m : Nat) (hm : m < pw 60) (N : Nat) (O : List AObj) (p : Nat) (q : Nat → Nat) : ∀ (k i : Nat) (acc : List Int), i + k = 60 → acc.length ≤ i →
   lim tbl (.loop a113_l0 20 ⟨[0, 2, 3], [2], []⟩ [i64 (Int.ofNat m), ownSl cI p acc, i64 (Int.ofNat i)]) ⟨N, O, roomP p (lenOf acc), roomC p q (lenOf acc)⟩
     = some (.exit 0, [ownSl cI p (app acc (upto (bitF m) i k))], ⟨N, O, roomP p (lenOf (app acc (upto (bitF m) i k))), roomC p q (lenOf (app acc (upto (bitF m) i k)))⟩) := by
  intro k
  induction k with
  | zero =>
    intro i acc hi ha
    have h0 : bshr m i = 0 := bshr_0 (by rw [show i = 60 by omega]; exact hm)
    have hs : shrI (Int.ofNat m) (Int.ofNat i) = some (i64 (Int.ofNat (bshr m i))) := shr_at (by omega)
    rw [h0] at hs
    rw [upto_0, app_nil, lim_loop]
    (try simp only [go_sem, ↓reduceIte, Nat.reduceAdd, Nat.reduceEqDiff, Nat.reduceLT, Nat.reduceLeDiff, Nat.reduceBEq, Int.reduceEq, Int.reduceLT, Int.reduceLE]); (repeat ((first | rw [hs] | (rw [lt_yes]; rotate_left; (first | omega | (simp [lenOf, app]; omega) | (simp only [lenOf]; omega))) | (rw [lt_no]; rotate_left; (first | omega | (simp [lenOf, app]; omega) | (simp only [lenOf]; omega))) | (rw [idxA_at]; rotate_left; (first | omega | (simp [lenOf, app]; omega) | (simp only [lenOf]; omega))) | (rw [wr_up]; rotate_left; (first | omega | (simp [lenOf, app]; omega) | (simp only [lenOf]; omega))) | ((first | rw [drop_cI] | rw [drop_cE] | rw [drop_cS] | rw [drop_cP] | rw [drop_cR]); rotate_left; assumption)); try simp only [go_sem, ↓reduceIte, Nat.reduceAdd, Nat.reduceEqDiff, Nat.reduceLT, Nat.reduceLeDiff, Nat.reduceBEq, Int.reduceEq, Int.reduceLT, Int.reduceLE]))
  | succ k ih =>
    intro i acc hi ha
    have hs : shrI (Int.ofNat m) (Int.ofNat i) = some (i64 (Int.ofNat (bshr m i))) := shr_at (by omega)
    by_cases h0 : bshr m i = 0
    · rw [h0] at hs
      rw [upto_bits_nil h0, app_nil, lim_loop]
      (try simp only [go_sem, ↓reduceIte, Nat.reduceAdd, Nat.reduceEqDiff, Nat.reduceLT, Nat.reduceLeDiff, Nat.reduceBEq, Int.reduceEq, Int.reduceLT, Int.reduceLE]); (repeat ((first | rw [hs] | (rw [lt_yes]; rotate_left; (first | omega | (simp [lenOf, app]; omega) | (simp only [lenOf]; omega))) | (rw [lt_no]; rotate_left; (first | omega | (simp [lenOf, app]; omega) | (simp only [lenOf]; omega))) | (rw [idxA_at]; rotate_left; (first | omega | (simp [lenOf, app]; omega) | (simp only [lenOf]; omega))) | (rw [wr_up]; rotate_left; (first | omega | (simp [lenOf, app]; omega) | (simp only [lenOf]; omega))) | ((first | rw [drop_cI] | rw [drop_cE] | rw [drop_cS] | rw [drop_cP] | rw [drop_cR]); rotate_left; assumption)); try simp only [go_sem, ↓reduceIte, Nat.reduceAdd, Nat.reduceEqDiff, Nat.reduceLT, Nat.reduceLeDiff, Nat.reduceBEq, Int.reduceEq, Int.reduceLT, Int.reduceLE]))
    have hpos : (0 : Int) < Int.ofNat (bshr m i) := by simp; omega
    have hr : remI (Int.ofNat (bshr m i)) 2 = some (i64 (Int.ofNat (bmod (bshr m i) 2))) := rem2_at _
    rw [upto_s, app_app]
    by_cases ht : bmod (bshr m i) 2 = 1
    · have hf : bitF m i = [Int.ofNat i] := by simp [bitF, ht]
      have h' := ih (i + 1) (app acc [Int.ofNat i]) (by omega) (by simp [app]; omega)
      have happ := append_own (f := cI) (sz := 1) (fun _ => rfl) 8 p q N O acc (Int.ofNat i) [i64 (Int.ofNat i)] rfl .full (by omega) (by omega)
      rw [ht] at hr
      rw [hf, lim_loop]
      generalize hR : some (_, _, _) = R at h' ⊢
      (try simp only [go_sem, ↓reduceIte, Nat.reduceAdd, Nat.reduceEqDiff, Nat.reduceLT, Nat.reduceLeDiff, Nat.reduceBEq, Int.reduceEq, Int.reduceLT, Int.reduceLE]); (repeat ((first | rw [hs] | rw [lt_y hpos] | rw [hr] | rw [happ] | (rw [lt_yes]; rotate_left; (first | omega | (simp [lenOf, app]; omega) | (simp only [lenOf]; omega))) | (rw [lt_no]; rotate_left; (first | omega | (simp [lenOf, app]; omega) | (simp only [lenOf]; omega))) | (rw [idxA_at]; rotate_left; (first | omega | (simp [lenOf, app]; omega) | (simp only [lenOf]; omega))) | (rw [wr_up]; rotate_left; (first | omega | (simp [lenOf, app]; omega) | (simp only [lenOf]; omega))) | ((first | rw [drop_cI] | rw [drop_cE] | rw [drop_cS] | rw [drop_cP] | rw [drop_cR]); rotate_left; assumption)); try simp only [go_sem, ↓reduceIte, Nat.reduceAdd, Nat.reduceEqDiff, Nat.reduceLT, Nat.reduceLeDiff, Nat.reduceBEq, Int.reduceEq, Int.reduceLT, Int.reduceLE]))
      exact h'
    · have hf : bitF m i = [] := by simp [bitF, ht]
      have h' := ih (i + 1) acc (by omega) (by omega)
      have ht0 : bmod (bshr m i) 2 = 0 := by unfold bmod at *; omega
      rw [ht0] at hr
      rw [hf, app_nil, lim_loop]
      generalize hR : some (_, _, _) = R at h' ⊢
      (try simp only [go_sem, ↓reduceIte, Nat.reduceAdd, Nat.reduceEqDiff, Nat.reduceLT, Nat.reduceLeDiff, Nat.reduceBEq, Int.reduceEq, Int.reduceLT, Int.reduceLE]); (repeat ((first | rw [hs] | rw [lt_y hpos] | rw [hr] | (rw [lt_yes]; rotate_left; (first | omega | (simp [lenOf, app]; omega) | (simp only [lenOf]; omega))) | (rw [lt_no]; rotate_left; (first | omega | (simp [lenOf, app]; omega) | (simp only [lenOf]; omega))) | (rw [idxA_at]; rotate_left; (first | omega | (simp [lenOf, app]; omega) | (simp only [lenOf]; omega))) | (rw [wr_up]; rotate_left; (first | omega | (simp [lenOf, app]; omega) | (simp only [lenOf]; omega))) | ((first | rw [drop_cI] | rw [drop_cE] | rw [drop_cS] | rw [drop_cP] | rw [drop_cR]); rotate_left; assumption)); try simp only [go_sem, ↓reduceIte, Nat.reduceAdd, Nat.reduceEqDiff, Nat.reduceLT, Nat.reduceLeDiff, Nat.reduceBEq, Int.reduceEq, Int.reduceLT, Int.reduceLE]))
      exact h'
theorem k113 (m : Nat) (hm : m < pw 60) (s : St) : lim tbl (.call 113 [i64 (Int.ofNat m)]) s = some (.ret, [sl cI (bitsOf m)], s) := by
  rw [lim_call tbl_113]; obtain ⟨N, O, p, q⟩ := s
  have h0 := l113 m hm N O p q 60 0 [] (by omega) (by simp)
  rw [nil_app, ownSl_nil, show lenOf ([] : List Int) = 0 from rfl, roomP_0, roomC_0, ofNat_0] at h0
  change _ = some (_, [ownSl cI p (bitsOf m)], (⟨N, O, roomP p (lenOf (bitsOf m)), roomC p q (lenOf (bitsOf m))⟩ : St)) at h0
  generalize bitsOf m = A at h0 ⊢
  (try simp only [go_sem, ↓reduceIte, Nat.reduceAdd, Nat.reduceEqDiff, Nat.reduceLT, Nat.reduceLeDiff, Nat.reduceBEq, Int.reduceEq, Int.reduceLT, Int.reduceLE]); (repeat ((first | rw [h0] | (rw [lt_yes]; rotate_left; (first | omega | (simp [lenOf, app]; omega) | (simp only [lenOf]; omega))) | (rw [lt_no]; rotate_left; (first | omega | (simp [lenOf, app]; omega) | (simp only [lenOf]; omega))) | (rw [idxA_at]; rotate_left; (first | omega | (simp [lenOf, app]; omega) | (simp only [lenOf]; omega))) | (rw [wr_up]; rotate_left; (first | omega | (simp [lenOf, app]; omega) | (simp only [lenOf]; omega))) | ((first | rw [drop_cI] | rw [drop_cE] | rw [drop_cS] | rw [drop_cP] | rw [drop_cR]); rotate_left; assumption)); try simp only [go_sem, ↓reduceIte, Nat.reduceAdd, Nat.reduceEqDiff, Nat.reduceLT, Nat.reduceLeDiff, Nat.reduceBEq, Int.reduceEq, Int.reduceLT, Int.reduceLE]))

def mostUp (g : Nat → Nat) (w n : Nat) : Nat → Nat → Nat
  | _, 0 => n
  | i, k + 1 => mostUp g w (if bmod (bshr w i) 2 = 1 then max n (g (bsub w (pw i))) else n) (i + 1) k
def mostF (a : Nat → Int) : Nat → Nat → Nat
  | 0, _ => 0
  | f + 1, w => if w = 0 then 0 else mostUp (mostF a f) w 0 0 6 + (if sumA a w = 0 then 1 else 0)
def mostN (a : Nat → Int) (w : Nat) : Nat := mostF a (w + 1) w
theorem bsub_lt {w i : Nat} (h : bmod (bshr w i) 2 = 1) : bsub w (pw i) < w := by
  have hb : w.testBit i = true := by
    rw [Nat.testBit_eq_decide_div_mod_eq, decide_eq_true_eq]
    unfold bmod bshr at h; rwa [Nat.shiftRight_eq_div_pow] at h
  have hle := bsub_le w (pw i)
  rcases Nat.lt_or_ge (bsub w (pw i)) w with h1 | h1
  · exact h1
  · exfalso
    have he : bsub w (pw i) = w := by omega
    have : (bsub w (pw i)).testBit i = false := by
      unfold bsub pw
      rw [Nat.testBit_and, Nat.testBit_xor, Nat.testBit_two_pow_self, hb]; rfl
    rw [he, hb] at this; cases this
theorem mostUp_congr {g g' : Nat → Nat} {w : Nat} (h : ∀ v, v < w → g v = g' v) : ∀ (k i n : Nat), mostUp g w n i k = mostUp g' w n i k
  | 0, _, _ => rfl
  | k + 1, i, n => by
    rw [mostUp, mostUp]
    by_cases ht : bmod (bshr w i) 2 = 1
    · rw [if_pos ht, if_pos ht, h _ (bsub_lt ht)]; exact mostUp_congr h k _ _
    · rw [if_neg ht, if_neg ht]; exact mostUp_congr h k _ _
theorem mostF_eq (a : Nat → Int) : ∀ (w f f' : Nat), w < f → w < f' → mostF a f w = mostF a f' w := by
  intro w
  induction w using Nat.strongRecOn with
  | _ w ih =>
    intro f f' h h'
    obtain ⟨f, rfl⟩ : ∃ g, f = g + 1 := ⟨f - 1, by omega⟩
    obtain ⟨f', rfl⟩ : ∃ g, f' = g + 1 := ⟨f' - 1, by omega⟩
    rw [mostF, mostF]
    by_cases hw : w = 0
    · simp [hw]
    · rw [if_neg hw, if_neg hw, mostUp_congr (g := mostF a f) (g' := mostF a f') (fun v hv => ih v hv f f' (by omega) (by omega))]
theorem mostN_eq (a : Nat → Int) (w : Nat) : mostN a w = if w = 0 then 0 else mostUp (mostN a) w 0 0 6 + (if sumA a w = 0 then 1 else 0) := by
  unfold mostN
  rw [mostF]
  by_cases hw : w = 0
  · simp [hw]
  · rw [if_neg hw, if_neg hw, mostUp_congr (g := mostF a w) (g' := fun w => mostF a (w + 1) w) (fun v hv => mostF_eq a v _ _ (by omega) (by omega))]
theorem mostUp_le (g : Nat → Nat) (w B : Nat) (h : ∀ v, v < w → g v ≤ B) : ∀ (k i n : Nat), n ≤ B → mostUp g w n i k ≤ B
  | 0, _, _, hn => hn
  | k + 1, i, n, hn => by
    rw [mostUp]
    apply mostUp_le g w B h
    split
    · rename_i ht; have := h _ (bsub_lt ht); omega
    · exact hn
theorem mostN_le (a : Nat → Int) (w : Nat) : mostN a w ≤ w := by
  induction w using Nat.strongRecOn with
  | _ w ih =>
    rw [mostN_eq]
    by_cases hw : w = 0
    · simp [hw]
    · rw [if_neg hw]
      have := mostUp_le (mostN a) w (w - 1) (fun v hv => by have := ih v hv; omega) 6 0 0 (by omega)
      split <;> omega
end Go.Proofs.Ytlhfeiacigmliaa

/- The wash-house's soap: what the functions compute: the greatest number of groups, and the fewest payments' number. -/
namespace Go.Proofs.Ytlhfeiacigmliaa
open Go
set_option maxRecDepth 10000
set_option linter.unusedSectionVars false

def lkF (zero : AVal) (s : St) : Option (Option (Nat × AVal)) → Option (AVal × St)
  | some none => some (.tup [zero, .bool false], s)
  | some (some (_, v)) => some (.tup [v, .bool true], s)
  | none => none
def lkM (zero : AVal) (s : St) (a b : Int) : Option AObj → Option (AVal × St)
  | some (.map true es) => lkF zero s (findA [0, 0] [i64 a, i64 b] es 0)
  | _ => none
def lkK (zero : AVal) (s : St) : AVal → AVal → Option (AVal × St)
  | .agg [.int .i64 a, .int .i64 b], .map n => lkM zero s a b (s.get n)
  | k, m => evalOp (fun _ _ => none) (.lookup true [0, 0] zero true (.const m) (.const k)) [] s
def muF (s : St) (n : Nat) (a b : Int) (v : AVal) (es : List (List AVal × AVal)) : Option (Option (Nat × AVal)) → Option (AVal × St)
  | some none => some (undefA, s.set n (.map true (es ++ [([i64 a, i64 b], v)])))
  | some (some (j, _)) => some (undefA, s.set n (.map true (es.modify j fun _ => ([i64 a, i64 b], v))))
  | none => none
def muM (s : St) (n : Nat) (a b : Int) (v : AVal) : Option AObj → Option (AVal × St)
  | some (.map true es) => muF s n a b v es (findA [0, 0] [i64 a, i64 b] es 0)
  | _ => none
def muK (s : St) (v : AVal) : AVal → AVal → Option (AVal × St)
  | .agg [.int .i64 a, .int .i64 b], .map n => muM s n a b v (s.get n)
  | k, m => evalOp (fun _ _ => none) (.mapUpdate true [0, 0] (.const m) (.const k) (.const v)) [] s
section
variable (H : Han) (fr : List AVal) (s : St) (zero v : AVal) (a b : Int) (n : Nat) (m k x : AOpd) (es : List (List AVal × AVal))
theorem kinds2 : kindsOk [0, 0] [AVal.int .i64 a, .int .i64 b] = true := rfl
theorem lookup_int : evalOp H (.lookup true [0, 0] zero true m k) fr s = (if kindsOk [0, 0] (k.eval fr).cells = false ∨ (k.eval fr).isAgg ≠ true then none else
    match m.eval fr with
    | .map b => match s.get b with
      | some (.map kagg' es) => if true ≠ kagg' then none else match findA [0, 0] (k.eval fr).cells es 0 with
        | some r =>
          let (v, h) := match r with | some (_, v) => (v, true) | none => (zero, false)
          some (if true then .tup [v, .bool h] else v, s)
        | none => none
      | _ => none
    | _ => none) := rfl
theorem update_int : evalOp H (.mapUpdate true [0, 0] m k x) fr s = (if kindsOk [0, 0] (k.eval fr).cells = false ∨ (k.eval fr).isAgg ≠ true then none else
    match m.eval fr with
    | .map b => match s.get b with
      | some (.map kagg' es) => if true ≠ kagg' then none else match findA [0, 0] (k.eval fr).cells es 0 with
        | some (some (i, _)) => some (undefA, s.set b (.map true (es.modify i fun _ => ((k.eval fr).cells, x.eval fr))))
        | some none => some (undefA, s.set b (.map true (es ++ [((k.eval fr).cells, x.eval fr)])))
        | none => none
      | _ => none
    | _ => none) := rfl
@[go_sem] theorem op_lookup : evalOp H (.lookup true [0, 0] zero true m k) fr s = lkK zero s (k.eval fr) (m.eval fr) := by
  unfold lkK
  split
  · rename_i a b n hk hm
    rw [lookup_int, hk, hm]
    simp only [AVal.cells, AVal.isAgg, kinds2, ne_eq, not_true_eq_false, or_false, Bool.true_eq_false, if_false]
    unfold lkM
    cases s.get n with
    | none => rfl
    | some o =>
      cases o with
      | map kagg es =>
        cases kagg with
        | false => rfl
        | true =>
          simp only [not_true_eq_false, if_false]
          unfold lkF
          cases findA [0, 0] [i64 a, i64 b] es 0 with
          | none => rfl
          | some r => cases r <;> rfl
      | _ => rfl
  · rfl
@[go_sem] theorem lkK_agg : lkK zero s (.agg [.int .i64 a, .int .i64 b]) (.map n) = lkM zero s a b (s.get n) := (rfl)
@[go_sem] theorem lkM_map : lkM zero s a b (some (.map true es)) = lkF zero s (findA [0, 0] [i64 a, i64 b] es 0) := (rfl)
@[go_sem] theorem lkF_none : lkF zero s (some none) = some (.tup [zero, .bool false], s) := (rfl)
@[go_sem] theorem lkF_some (j : Nat) : lkF zero s (some (some (j, v))) = some (.tup [v, .bool true], s) := (rfl)
@[go_sem] theorem op_update : evalOp H (.mapUpdate true [0, 0] m k x) fr s = muK s (x.eval fr) (k.eval fr) (m.eval fr) := by
  unfold muK
  split
  · rename_i a b n hk hm
    rw [update_int, hk, hm]
    simp only [AVal.cells, AVal.isAgg, kinds2, ne_eq, not_true_eq_false, or_false, Bool.true_eq_false, if_false]
    unfold muM
    cases s.get n with
    | none => rfl
    | some o =>
      cases o with
      | map kagg es =>
        cases kagg with
        | false => rfl
        | true =>
          simp only [not_true_eq_false, if_false]
          unfold muF
          cases findA [0, 0] [i64 a, i64 b] es 0 with
          | none => rfl
          | some r => cases r <;> rfl
      | _ => rfl
  · rfl
@[go_sem] theorem muK_agg : muK s v (.agg [.int .i64 a, .int .i64 b]) (.map n) = muM s n a b v (s.get n) := (rfl)
@[go_sem] theorem muM_map : muM s n a b v (some (.map true es)) = muF s n a b v es (findA [0, 0] [i64 a, i64 b] es 0) := (rfl)
@[go_sem] theorem muF_none : muF s n a b v es (some none) = some (.tup [], s.set n (.map true (es ++ [([i64 a, i64 b], v)]))) := (rfl)
@[go_sem] theorem muF_some (j : Nat) (v' : AVal) : muF s n a b v es (some (some (j, v'))) = some (.tup [], s.set n (.map true (es.modify j fun _ => ([i64 a, i64 b], v)))) := (rfl)
end

/-- What is noted in a purse's map is right. -/
def Memo (a : Nat → Int) (es : List (List AVal × AVal)) : Prop := ∀ x ∈ es, ∃ w : Nat, w < 64 ∧ x = ([i64 (Int.ofNat w), i64 (sumA a w)], i64 (Int.ofNat (mostN a w)))
theorem find_memo {a : Nat → Int} {w : Nat} : ∀ {es : List (List AVal × AVal)} (_ : Memo a es) (i : Nat), findA [0, 0] [i64 (Int.ofNat w), i64 (sumA a w)] es i = some none ∨ ∃ j, findA [0, 0] [i64 (Int.ofNat w), i64 (sumA a w)] es i = some (some (j, i64 (Int.ofNat (mostN a w))))
  | [], _, _ => Or.inl rfl
  | x :: es, h, i => by
    obtain ⟨w', hw, hx⟩ := h x (by simp)
    subst hx
    have ih := find_memo (w := w) (es := es) (fun y hy => h y (by simp [hy])) (i + 1)
    by_cases he : w = w'
    · subst he
      right
      refine ⟨i, ?_⟩
      simp [findA, eqCells, eqCell]
    · have hn : eqCells [0, 0] [i64 (Int.ofNat w), i64 (sumA a w)] [i64 (Int.ofNat w'), i64 (sumA a w')] = some false := by
        simp [eqCells, eqCell]
        intro h; exact absurd (by omega) he
      have hf : findA [0, 0] [i64 (Int.ofNat w), i64 (sumA a w)] (([i64 (Int.ofNat w'), i64 (sumA a w')], i64 (Int.ofNat (mostN a w'))) :: es) i = findA [0, 0] [i64 (Int.ofNat w), i64 (sumA a w)] es (i + 1) := by
        rw [findA, hn]
      rw [hf]; exact ih
theorem Memo.add {a : Nat → Int} {es : List (List AVal × AVal)} (h : Memo a es) {w : Nat} (hw : w < 64) : Memo a (es ++ [([i64 (Int.ofNat w), i64 (sumA a w)], i64 (Int.ofNat (mostN a w)))]) := fun x hx => by
  simp only [List.mem_append, List.mem_singleton] at hx
  rcases hx with hx | hx
  · exact h x hx
  · exact ⟨w, hw, hx⟩
theorem Memo.mod {a : Nat → Int} {es : List (List AVal × AVal)} (h : Memo a es) {w : Nat} (hw : w < 64) (j : Nat) : Memo a (es.modify j fun _ => ([i64 (Int.ofNat w), i64 (sumA a w)], i64 (Int.ofNat (mostN a w)))) := fun x hx => by
  obtain ⟨i, hi⟩ := List.mem_iff_getElem?.mp hx
  rw [List.getElem?_modify] at hi
  cases he : es[i]? with
  | none => rw [he] at hi; cases hi
  | some y =>
    rw [he] at hi
    have hi : (if j = i then (([i64 (Int.ofNat w), i64 (sumA a w)], i64 (Int.ofNat (mostN a w))) : List AVal × AVal) else y) = x := by
      exact Option.some.inj hi
    by_cases hj : j = i
    · rw [if_pos hj] at hi; exact ⟨w, hw, hi.symm⟩
    · rw [if_neg hj] at hi; subst hi; exact h _ (List.mem_of_getElem? he)
theorem Eff.trans {P : (Nat → Int) → List (List AVal × AVal) → Prop} {T : List Purse} {M : Nat} {Q : List AObj} {M1 : Nat} {Q1 : List AObj} {M2 : Nat} {Q2 : List AObj} (h : Eff P T M Q M1 Q1) (h' : Eff P T M1 Q1 M2 Q2) : Eff P T M Q M2 Q2 :=
  ⟨fun b o hb g => h'.keep b o hb (h.keep b o hb g), fun N0 O0 hn g => h'.old N0 O0 hn (h.old N0 O0 hn g), h'.maps⟩
theorem Eff.push {P : (Nat → Int) → List (List AVal × AVal) → Prop} {T : List Purse} {M : Nat} {Q : List AObj} {M' : Nat} {Q' : List AObj} (o : AObj) (h : Eff P T (na M 1) (o :: Q) M' Q') : Eff P T M Q M' Q' :=
  ⟨fun b o' hb g => h.keep b o' hb (gO_push g o), fun N0 O0 hn g => h.old N0 O0 hn (g.push o), h.maps⟩
section
variable (a : Nat → Int) (m : Nat) (p : Nat) (q : Nat → Nat)
def MostOk (w : Nat) : Prop := ∀ M Q, MapsOk Memo [(a, m)] M Q → ∃ M' Q', Eff Memo [(a, m)] M Q M' Q' ∧ lim tbl (.call 112 [.vref (c7 a m), i64 (Int.ofNat w)]) ⟨M, Q, p, q⟩ = some (.ret, [i64 (Int.ofNat (mostN a w))], ⟨M', Q', p, q⟩)
theorem l112 (w : Nat) (hw : w < 64) (ih : ∀ v, v < w → MostOk a m p q v) (b : Nat) (hb : b ≠ m) : ∀ (k i n : Nat) (M : Nat) (Q : List AObj), i + k = 6 → n ≤ 64 → MapsOk Memo [(a, m)] M Q → gO M Q b = some (.cells [i64 (Int.ofNat w), i64 (sumA a w)]) →
    ∃ M' Q', Eff Memo [(a, m)] M Q M' Q' ∧ lim tbl (.loop a112_l0 54 ⟨[0, 1, 5, 6, 25], [0, 5, 6], []⟩ [.vref (c7 a m), i64 (Int.ofNat w), .ptr b 0, i64 (Int.ofNat n), i64 (Int.ofNat i)]) ⟨M, Q, p, q⟩
      = some (.exit 0, [.vref (c7 a m), .ptr b 0, i64 (Int.ofNat (mostUp (mostN a) w n i k))], ⟨M', Q', p, q⟩) := by
  intro k
  induction k with
  | zero =>
    intro i n M Q hi hn hm hg
    have h6 : ¬ Int.ofNat i < 6 := by simp; omega
    refine ⟨M, Q, Eff.refl hm, ?_⟩
    rw [mostUp, lim_loop]
    (try simp only [go_sem, ↓reduceIte, Nat.reduceAdd, Nat.reduceEqDiff, Nat.reduceLT, Nat.reduceLeDiff, Nat.reduceBEq, Int.reduceEq, Int.reduceLT, Int.reduceLE]); (repeat ((first | rw [lt_n h6] | (rw [lt_yes]; rotate_left; (first | omega | (simp [lenOf, app]; omega) | (simp only [lenOf]; omega))) | (rw [lt_no]; rotate_left; (first | omega | (simp [lenOf, app]; omega) | (simp only [lenOf]; omega))) | (rw [idxA_at]; rotate_left; (first | omega | (simp [lenOf, app]; omega) | (simp only [lenOf]; omega))) | (rw [wr_up]; rotate_left; (first | omega | (simp [lenOf, app]; omega) | (simp only [lenOf]; omega))) | ((first | rw [drop_cI] | rw [drop_cE] | rw [drop_cS] | rw [drop_cP] | rw [drop_cR]); rotate_left; assumption)); try simp only [go_sem, ↓reduceIte, Nat.reduceAdd, Nat.reduceEqDiff, Nat.reduceLT, Nat.reduceLeDiff, Nat.reduceBEq, Int.reduceEq, Int.reduceLT, Int.reduceLE]))
  | succ k ihk =>
    intro i n M Q hi hn hm hg
    have h6 : Int.ofNat i < 6 := by simp; omega
    have hs : shrI (Int.ofNat w) (Int.ofNat i) = some (i64 (Int.ofNat (bshr w i))) := shr_at (by omega)
    have hr : remI (Int.ofNat (bshr w i)) 2 = some (i64 (Int.ofNat (bmod (bshr w i) 2))) := rem2_at _
    have hpw : pw i < 9223372036854775808 := pw_lt (by omega)
    rw [mostUp]
    by_cases ht : bmod (bshr w i) 2 = 1
    · obtain ⟨M1, Q1, hE, hc⟩ := ih _ (bsub_lt ht) M Q hm
      have hle := mostN_le a (bsub w (pw i))
      have hlt := bsub_lt ht
      obtain ⟨M', Q', hE', h'⟩ := ihk (i + 1) (max n (mostN a (bsub w (pw i)))) M1 Q1 (by omega) (by omega) hE.maps (hE.keep b _ (by simpa using hb) hg)
      refine ⟨M', Q', hE.trans hE', ?_⟩
      have hsub : bitsA .andNot .i64 (Int.ofNat w) (Int.ofNat (pw i)) = some (i64 (Int.ofNat (bsub w (pw i)))) := bits_sub (by omega) hpw
      have hsh : shlI 1 (Int.ofNat i) = some (i64 (Int.ofNat (pw i))) := shl1_at (by omega)
      have hmx := mx_nat n (mostN a (bsub w (pw i)))
      rw [ht] at hr
      rw [if_pos ht, lim_loop]
      generalize hR : some (_, _, _) = R at h' ⊢
      (try simp only [go_sem, ↓reduceIte, Nat.reduceAdd, Nat.reduceEqDiff, Nat.reduceLT, Nat.reduceLeDiff, Nat.reduceBEq, Int.reduceEq, Int.reduceLT, Int.reduceLE]); (repeat ((first | rw [lt_y h6] | rw [hs] | rw [hr] | rw [hsh] | rw [hsub] | rw [hc] | rw [hmx] | (rw [lt_yes]; rotate_left; (first | omega | (simp [lenOf, app]; omega) | (simp only [lenOf]; omega))) | (rw [lt_no]; rotate_left; (first | omega | (simp [lenOf, app]; omega) | (simp only [lenOf]; omega))) | (rw [idxA_at]; rotate_left; (first | omega | (simp [lenOf, app]; omega) | (simp only [lenOf]; omega))) | (rw [wr_up]; rotate_left; (first | omega | (simp [lenOf, app]; omega) | (simp only [lenOf]; omega))) | ((first | rw [drop_cI] | rw [drop_cE] | rw [drop_cS] | rw [drop_cP] | rw [drop_cR]); rotate_left; assumption)); try simp only [go_sem, ↓reduceIte, Nat.reduceAdd, Nat.reduceEqDiff, Nat.reduceLT, Nat.reduceLeDiff, Nat.reduceBEq, Int.reduceEq, Int.reduceLT, Int.reduceLE]))
      exact h'
    · have ht0 : bmod (bshr w i) 2 = 0 := by unfold bmod at *; omega
      obtain ⟨M', Q', hE', h'⟩ := ihk (i + 1) n M Q (by omega) hn hm hg
      refine ⟨M', Q', hE', ?_⟩
      rw [ht0] at hr
      rw [if_neg ht, lim_loop]
      generalize hR : some (_, _, _) = R at h' ⊢
      (try simp only [go_sem, ↓reduceIte, Nat.reduceAdd, Nat.reduceEqDiff, Nat.reduceLT, Nat.reduceLeDiff, Nat.reduceBEq, Int.reduceEq, Int.reduceLT, Int.reduceLE]); (repeat ((first | rw [lt_y h6] | rw [hs] | rw [hr] | (rw [lt_yes]; rotate_left; (first | omega | (simp [lenOf, app]; omega) | (simp only [lenOf]; omega))) | (rw [lt_no]; rotate_left; (first | omega | (simp [lenOf, app]; omega) | (simp only [lenOf]; omega))) | (rw [idxA_at]; rotate_left; (first | omega | (simp [lenOf, app]; omega) | (simp only [lenOf]; omega))) | (rw [wr_up]; rotate_left; (first | omega | (simp [lenOf, app]; omega) | (simp only [lenOf]; omega))) | ((first | rw [drop_cI] | rw [drop_cE] | rw [drop_cS] | rw [drop_cP] | rw [drop_cR]); rotate_left; assumption)); try simp only [go_sem, ↓reduceIte, Nat.reduceAdd, Nat.reduceEqDiff, Nat.reduceLT, Nat.reduceLeDiff, Nat.reduceBEq, Int.reduceEq, Int.reduceLT, Int.reduceLE]))
      exact h'
theorem k112 : ∀ w, w < 64 → MostOk a m p q w := by
  intro w
  induction w using Nat.strongRecOn with
  | _ w ih =>
    intro hw M Q hm
    have h111 := fun s => k111 a m w s
    obtain ⟨es, hmap, hmemo⟩ := hm (a, m) (by simp)
    simp only at hmap hmemo
    have hbm : M ≠ m := by have := gO_lt hmap; omega
    have hm1 := hm.push (.cells [i64 (Int.ofNat w), i64 (sumA a w)])
    by_cases hw0 : w = 0
    · subst hw0
      refine ⟨na M 1, .cells [i64 (Int.ofNat 0), i64 (sumA a 0)] :: Q, (Eff.refl hm1).push _, ?_⟩
      have h0 : mostN a 0 = 0 := by rw [mostN_eq]; rfl
      rw [h0, lim_call tbl_112]
      rw [ofNat_0] at h111 ⊢
      (try simp only [go_sem, ↓reduceIte, Nat.reduceAdd, Nat.reduceEqDiff, Nat.reduceLT, Nat.reduceLeDiff, Nat.reduceBEq, Int.reduceEq, Int.reduceLT, Int.reduceLE]); (repeat ((first | simp only [h111] | (rw [lt_yes]; rotate_left; (first | omega | (simp [lenOf, app]; omega) | (simp only [lenOf]; omega))) | (rw [lt_no]; rotate_left; (first | omega | (simp [lenOf, app]; omega) | (simp only [lenOf]; omega))) | (rw [idxA_at]; rotate_left; (first | omega | (simp [lenOf, app]; omega) | (simp only [lenOf]; omega))) | (rw [wr_up]; rotate_left; (first | omega | (simp [lenOf, app]; omega) | (simp only [lenOf]; omega))) | ((first | rw [drop_cI] | rw [drop_cE] | rw [drop_cS] | rw [drop_cP] | rw [drop_cR]); rotate_left; assumption)); try simp only [go_sem, ↓reduceIte, Nat.reduceAdd, Nat.reduceEqDiff, Nat.reduceLT, Nat.reduceLeDiff, Nat.reduceBEq, Int.reduceEq, Int.reduceLT, Int.reduceLE]))
    have hz : ¬ Int.ofNat w = 0 := by simp; omega
    have e1 : St.get ⟨na M 1, .cells [i64 (Int.ofNat w), i64 (sumA a w)] :: Q, p, q⟩ m = some (.map true es) := gO_push hmap _
    rcases find_memo (w := w) hmemo 0 with hf | ⟨j, hf⟩
    · obtain ⟨M1, Q1, hE, hl⟩ := l112 a m p q w hw (fun v hv => ih v hv (by omega)) M hbm 6 0 0 (na M 1) (.cells [i64 (Int.ofNat w), i64 (sumA a w)] :: Q) (by omega) (by omega) hm1 (gO_new ..)
      rw [ofNat_0] at hl
      have g1 := hE.keep M _ (by simpa using hbm) (gO_new M Q (.cells [i64 (Int.ofNat w), i64 (sumA a w)]))
      obtain ⟨es2, hmap2, hmemo2⟩ := hE.maps (a, m) (by simp)
      simp only at hmap2 hmemo2
      have e2 : St.get ⟨M1, Q1, p, q⟩ M = some (.cells [i64 (Int.ofNat w), i64 (sumA a w)]) := g1
      have e3 : St.get ⟨M1, Q1, p, q⟩ m = some (.map true es2) := hmap2
      have hmn : mostN a w = mostUp (mostN a) w 0 0 6 + (if sumA a w = 0 then 1 else 0) := by rw [mostN_eq, if_neg hw0]
      have hle := mostN_le a w
      have fin : ∀ es3, Memo a es3 → ∃ Q2, St.set ⟨M1, Q1, p, q⟩ m (.map true es3) = ⟨M1, Q2, p, q⟩ ∧ Eff Memo [(a, m)] M Q M1 Q2 := fun es3 h3 => by
        obtain ⟨Q2, s2, _, g2, g3, g4⟩ := gO_set hmap2 (.map true es3)
        refine ⟨Q2, s2 p q, fun b o hb g => ?_, fun N0 O0 hn g => ?_, fun x hx => ?_⟩
        · rw [g3 b (by simpa using hb)]
          exact hE.push.keep b o hb g
        · exact g4 N0 O0 (hE.push.old N0 O0 hn g) (by have := hn (a, m) (by simp); simpa using this)
        · simp only [List.mem_singleton] at hx
          subst hx
          exact ⟨es3, g2, h3⟩
      have stored : ∃ Q2, Eff Memo [(a, m)] M Q M1 Q2 ∧ muF ⟨M1, Q1, p, q⟩ m (Int.ofNat w) (sumA a w) (i64 (Int.ofNat (mostN a w))) es2 (findA [0, 0] [i64 (Int.ofNat w), i64 (sumA a w)] es2 0) = some (.tup [], ⟨M1, Q2, p, q⟩) := by
        rcases find_memo (w := w) hmemo2 0 with h2 | ⟨j2, h2⟩
        · obtain ⟨Q2, s2, hE2⟩ := fin _ (hmemo2.add hw)
          exact ⟨Q2, hE2, by rw [h2, muF_none, s2]⟩
        · obtain ⟨Q2, s2, hE2⟩ := fin _ (hmemo2.mod hw j2)
          exact ⟨Q2, hE2, by rw [h2, muF_some, s2]⟩
      obtain ⟨Q2, hE2, hst⟩ := stored
      refine ⟨M1, Q2, hE2, ?_⟩
      rw [lim_call tbl_112]
      by_cases hsum : sumA a w = 0
      · rw [if_pos hsum] at hmn
        have hup : wr .i64 (Int.add (Int.ofNat (mostUp (mostN a) w 0 0 6)) 1) = Int.ofNat (mostN a w) := by
          rw [hmn]; exact wr_up (by omega)
        generalize mostN a w = z at hst hup ⊢
        generalize mostUp (mostN a) w 0 0 6 = y at hl hup
        (try simp only [go_sem, ↓reduceIte, Nat.reduceAdd, Nat.reduceEqDiff, Nat.reduceLT, Nat.reduceLeDiff, Nat.reduceBEq, Int.reduceEq, Int.reduceLT, Int.reduceLE]); (repeat ((first | simp only [h111] | rw [eq_n hz] | rw [e1] | rw [hf] | rw [hl] | rw [e2] | rw [eq_y hsum] | rw [hup] | rw [e3] | rw [hst] | (rw [lt_yes]; rotate_left; (first | omega | (simp [lenOf, app]; omega) | (simp only [lenOf]; omega))) | (rw [lt_no]; rotate_left; (first | omega | (simp [lenOf, app]; omega) | (simp only [lenOf]; omega))) | (rw [idxA_at]; rotate_left; (first | omega | (simp [lenOf, app]; omega) | (simp only [lenOf]; omega))) | (rw [wr_up]; rotate_left; (first | omega | (simp [lenOf, app]; omega) | (simp only [lenOf]; omega))) | ((first | rw [drop_cI] | rw [drop_cE] | rw [drop_cS] | rw [drop_cP] | rw [drop_cR]); rotate_left; assumption)); try simp only [go_sem, ↓reduceIte, Nat.reduceAdd, Nat.reduceEqDiff, Nat.reduceLT, Nat.reduceLeDiff, Nat.reduceBEq, Int.reduceEq, Int.reduceLT, Int.reduceLE]))
      · rw [if_neg hsum, Nat.add_zero] at hmn
        rw [← hmn] at hl
        generalize mostN a w = z at hst hl ⊢
        (try simp only [go_sem, ↓reduceIte, Nat.reduceAdd, Nat.reduceEqDiff, Nat.reduceLT, Nat.reduceLeDiff, Nat.reduceBEq, Int.reduceEq, Int.reduceLT, Int.reduceLE]); (repeat ((first | simp only [h111] | rw [eq_n hz] | rw [e1] | rw [hf] | rw [hl] | rw [e2] | rw [eq_n hsum] | rw [e3] | rw [hst] | (rw [lt_yes]; rotate_left; (first | omega | (simp [lenOf, app]; omega) | (simp only [lenOf]; omega))) | (rw [lt_no]; rotate_left; (first | omega | (simp [lenOf, app]; omega) | (simp only [lenOf]; omega))) | (rw [idxA_at]; rotate_left; (first | omega | (simp [lenOf, app]; omega) | (simp only [lenOf]; omega))) | (rw [wr_up]; rotate_left; (first | omega | (simp [lenOf, app]; omega) | (simp only [lenOf]; omega))) | ((first | rw [drop_cI] | rw [drop_cE] | rw [drop_cS] | rw [drop_cP] | rw [drop_cR]); rotate_left; assumption)); try simp only [go_sem, ↓reduceIte, Nat.reduceAdd, Nat.reduceEqDiff, Nat.reduceLT, Nat.reduceLeDiff, Nat.reduceBEq, Int.reduceEq, Int.reduceLT, Int.reduceLE]))
    · refine ⟨na M 1, .cells [i64 (Int.ofNat w), i64 (sumA a w)] :: Q, (Eff.refl hm1).push _, ?_⟩
      rw [lim_call tbl_112]
      (try simp only [go_sem, ↓reduceIte, Nat.reduceAdd, Nat.reduceEqDiff, Nat.reduceLT, Nat.reduceLeDiff, Nat.reduceBEq, Int.reduceEq, Int.reduceLT, Int.reduceLE]); (repeat ((first | simp only [h111] | rw [eq_n hz] | rw [e1] | rw [hf] | (rw [lt_yes]; rotate_left; (first | omega | (simp [lenOf, app]; omega) | (simp only [lenOf]; omega))) | (rw [lt_no]; rotate_left; (first | omega | (simp [lenOf, app]; omega) | (simp only [lenOf]; omega))) | (rw [idxA_at]; rotate_left; (first | omega | (simp [lenOf, app]; omega) | (simp only [lenOf]; omega))) | (rw [wr_up]; rotate_left; (first | omega | (simp [lenOf, app]; omega) | (simp only [lenOf]; omega))) | ((first | rw [drop_cI] | rw [drop_cE] | rw [drop_cS] | rw [drop_cP] | rw [drop_cR]); rotate_left; assumption)); try simp only [go_sem, ↓reduceIte, Nat.reduceAdd, Nat.reduceEqDiff, Nat.reduceLT, Nat.reduceLeDiff, Nat.reduceBEq, Int.reduceEq, Int.reduceLT, Int.reduceLE]))
end
end Go.Proofs.Ytlhfeiacigmliaa

/- The wash-house's soap: what the functions compute: the fewest payments' number in all truths. -/
namespace Go.Proofs.Ytlhfeiacigmliaa
open Go
set_option maxRecDepth 10000

theorem Eff.one {P : (Nat → Int) → List (List AVal × AVal) → Prop} {T : List Purse} (hn : (T.map (·.2)).Nodup) {x : Purse} (hx : x ∈ T) {M : Nat} {Q : List AObj} (hm : MapsOk P T M Q) {M' : Nat} {Q' : List AObj} (h : Eff P [x] M Q M' Q') : Eff P T M Q M' Q' := by
  refine ⟨fun b o hb g => h.keep b o (by simpa using hb x hx) g, fun N0 O0 hN g => h.old N0 O0 (by simpa using hN x hx) g, fun y hy => ?_⟩
  by_cases he : y.2 = x.2
  · have : y = x := by
      obtain ⟨i, hi⟩ := List.mem_iff_getElem?.mp hy
      obtain ⟨k, hk⟩ := List.mem_iff_getElem?.mp hx
      have hl : i < T.length := by
        rcases Nat.lt_or_ge i T.length with h | h
        · exact h
        · rw [List.getElem?_eq_none h] at hi; cases hi
      have h1 : (T.map (·.2))[i]? = (T.map (·.2))[k]? := by simp [hi, hk, he]
      have := (List.getElem?_inj (by simpa using hl) hn).mp h1
      subst this
      rw [hi] at hk; exact Option.some.inj hk
    subst this
    exact h.maps y (by simp)
  · obtain ⟨es, h1, h2⟩ := hm y hy
    exact ⟨es, h.keep y.2 _ (by simpa using he) h1, h2⟩
def payV (a : Nat → Int) : Int := wr .i64 (Int.sub (Int.ofNat (lenOf (bitsOf (openN a)))) (Int.ofNat (mostN a (openN a))))
theorem k84 (a : Nat → Int) (m : Nat) (v : AVal) (p : Nat) (q : Nat → Nat) (M : Nat) (Q : List AObj) (hm : MapsOk Memo [(a, m)] M Q) : ∃ M' Q', Eff Memo [(a, m)] M Q M' Q' ∧ lim tbl (.call 84 [.vref (c7 a m), v]) ⟨M, Q, p, q⟩ = some (.ret, [i64 (payV a)], ⟨M', Q', p, q⟩) := by
  have h110 := fun s => k110 a m s
  have hp60 : pw 60 = 1152921504606846976 := by rfl
  have ho := openN_lt a
  have h113 := fun s => k113 (openN a) (by omega) s
  obtain ⟨M', Q', hE, h112⟩ := k112 a m p q (openN a) ho M Q hm
  refine ⟨M', Q', hE, ?_⟩
  rw [lim_call tbl_84]
  unfold payV
  (try simp only [go_sem, ↓reduceIte, Nat.reduceAdd, Nat.reduceEqDiff, Nat.reduceLT, Nat.reduceLeDiff, Nat.reduceBEq, Int.reduceEq, Int.reduceLT, Int.reduceLE]); (repeat ((first | simp only [h110] | simp only [h113] | rw [h112] | (rw [lt_yes]; rotate_left; (first | omega | (simp [lenOf, app]; omega) | (simp only [lenOf]; omega))) | (rw [lt_no]; rotate_left; (first | omega | (simp [lenOf, app]; omega) | (simp only [lenOf]; omega))) | (rw [idxA_at]; rotate_left; (first | omega | (simp [lenOf, app]; omega) | (simp only [lenOf]; omega))) | (rw [wr_up]; rotate_left; (first | omega | (simp [lenOf, app]; omega) | (simp only [lenOf]; omega))) | ((first | rw [drop_cI] | rw [drop_cE] | rw [drop_cS] | rw [drop_cP] | rw [drop_cR]); rotate_left; assumption)); try simp only [go_sem, ↓reduceIte, Nat.reduceAdd, Nat.reduceEqDiff, Nat.reduceLT, Nat.reduceLeDiff, Nat.reduceBEq, Int.reduceEq, Int.reduceLT, Int.reduceLE]))
def fewestP (S : Slate) : Int × Int := if askedErr S = 0 then pBounds payV (asked S) else (0, 0)
theorem k38 (S : Slate) (s : St) : lim tbl (.call 38 [vSl S]) s = some (.ret, [.tup [.agg [i64 (fewestP S).1, i64 (fewestP S).2], i64 (askedErr S)]], s) := by
  rw [lim_call tbl_38]
  by_cases hc : checkSlate S = 0
  · obtain ⟨N, O, p, q⟩ := s
    obtain ⟨T, M, Q, hv, ho, htw, hm, hnd, hTl, h74⟩ := k74 S hc (na N 1) (.cells [i64 0, i64 0] :: O) p q
    have ho' : OldO N O M Q := ((OldO.refl N O).push _).trans ho
    by_cases hz : asked S = []
    · have he : askedErr S = 11 := by simp [askedErr, hc, hz]
      have hb : fewestP S = (0, 0) := by simp [fewestP, he]
      rw [if_pos hz] at h74
      rw [he, hb]
      have hg : gO M Q N = some (.cells [i64 0, i64 0]) := by
        obtain ⟨h1, h2⟩ := ho
        have h3 : gO (na N 1) (.cells [i64 0, i64 0] :: O) N = some (.cells [i64 0, i64 0]) := gO_new ..
        unfold gO at h3 ⊢
        rw [if_pos (by simp only [na] at h1; omega)]
        rw [if_pos (by simp [na]), ← h2, List.getElem?_drop] at h3
        rw [← h3]; congr 1; simp only [na] at h1 ⊢; omega
      obtain ⟨Q1, s1, _, g1, g2, g3⟩ := gO_set hg (.cells [i64 0, i64 0])
      have e1 : ∀ p' q', St.get ⟨M, Q, p', q'⟩ N = some (.cells [i64 0, i64 0]) := fun _ _ => hg
      have e2 : ∀ p' q', St.get ⟨M, Q1, p', q'⟩ N = some (.cells [i64 0, i64 0]) := fun _ _ => g1
      have hold := (g3 _ _ ho' (Nat.le_refl _)).oldr p q (roomP p (lenOf T)) (lenOf T)
      obtain ⟨w, es, ss⟩ := S
      (try simp only [go_sem, ↓reduceIte, Nat.reduceAdd, Nat.reduceEqDiff, Nat.reduceLT, Nat.reduceLeDiff, Nat.reduceBEq, Int.reduceEq, Int.reduceLT, Int.reduceLE]); (repeat ((first | rw [h74] | rw [e1] | rw [s1] | rw [e2] | rw [hold] | (rw [lt_yes]; rotate_left; (first | omega | (simp [lenOf, app]; omega) | (simp only [lenOf]; omega))) | (rw [lt_no]; rotate_left; (first | omega | (simp [lenOf, app]; omega) | (simp only [lenOf]; omega))) | (rw [idxA_at]; rotate_left; (first | omega | (simp [lenOf, app]; omega) | (simp only [lenOf]; omega))) | (rw [wr_up]; rotate_left; (first | omega | (simp [lenOf, app]; omega) | (simp only [lenOf]; omega))) | ((first | rw [drop_cI] | rw [drop_cE] | rw [drop_cS] | rw [drop_cP] | rw [drop_cR]); rotate_left; assumption)); try simp only [go_sem, ↓reduceIte, Nat.reduceAdd, Nat.reduceEqDiff, Nat.reduceLT, Nat.reduceLeDiff, Nat.reduceBEq, Int.reduceEq, Int.reduceLT, Int.reduceLE]))
    · have he : askedErr S = 0 := by simp [askedErr, hc, hz]
      have hb : fewestP S = pBounds payV (asked S) := by simp [fewestP, he]
      rw [if_neg hz] at h74
      rw [he, hb]
      have hg : gO M Q N = some (.cells [i64 0, i64 0]) := by
        obtain ⟨h1, h2⟩ := ho
        have h3 : gO (na N 1) (.cells [i64 0, i64 0] :: O) N = some (.cells [i64 0, i64 0]) := gO_new ..
        unfold gO at h3 ⊢
        rw [if_pos (by simp only [na] at h1; omega)]
        rw [if_pos (by simp [na]), ← h2, List.getElem?_drop] at h3
        rw [← h3]; congr 1; simp only [na] at h1 ⊢; omega
      have hm' : MapsOk Memo T M Q := fun x hx => ⟨[], (hm x hx).2, fun y hy => by simp at hy⟩
      obtain ⟨w, es, ss⟩ := S
      simp only at htw
      obtain ⟨M1, Q1, h1, h2, h3, hc76⟩ := k76 Memo T 84 0 payV (roomP p (lenOf T)) (roomC p q (lenOf T)) (fun x hx M Q hm => by
        obtain ⟨M', Q', hE, hl⟩ := k84 x.1 x.2 (i64 (Int.ofNat 0)) (roomP p (lenOf T)) (roomC p q (lenOf T)) M Q (fun y hy => by
          simp only [List.mem_singleton] at hy; subst hy; exact hm x hx)
        exact ⟨M', Q', hE.one hnd hx hm, by rw [hl]; rfl⟩) (by omega) p hTl (na N 1) [] _ _ _ M Q htw hm'
      rw [ofNat_0, hv] at hc76
      have hNT : ∀ x ∈ T, N < x.2 := fun x hx => by have := (hm x hx).1; simp only [na] at this; omega
      have hg1 := h1 N _ (fun x hx => Nat.ne_of_lt (hNT x hx)) hg
      generalize pBounds payV (asked ⟨w, es, ss⟩) = R at hc76 ⊢
      obtain ⟨lo, hi⟩ := R
      obtain ⟨Q2, s2, _, g1, g2, g3⟩ := gO_set hg1 (.cells [i64 lo, i64 hi])
      have e1 : ∀ p' q', St.get ⟨M1, Q1, p', q'⟩ N = some (.cells [i64 0, i64 0]) := fun _ _ => hg1
      have e2 : ∀ p' q', St.get ⟨M1, Q2, p', q'⟩ N = some (.cells [i64 lo, i64 hi]) := fun _ _ => g1
      have hold := (g3 _ _ (h2 N O (fun x hx => Nat.le_of_lt (hNT x hx)) ho') (Nat.le_refl _)).oldr p q (roomP p (lenOf T)) (lenOf T)
      simp only at hc76 ⊢
      (try simp only [go_sem, ↓reduceIte, Nat.reduceAdd, Nat.reduceEqDiff, Nat.reduceLT, Nat.reduceLeDiff, Nat.reduceBEq, Int.reduceEq, Int.reduceLT, Int.reduceLE]); (repeat ((first | rw [h74] | rw [hc76] | rw [e1] | rw [s2] | rw [e2] | rw [hold] | (rw [lt_yes]; rotate_left; (first | omega | (simp [lenOf, app]; omega) | (simp only [lenOf]; omega))) | (rw [lt_no]; rotate_left; (first | omega | (simp [lenOf, app]; omega) | (simp only [lenOf]; omega))) | (rw [idxA_at]; rotate_left; (first | omega | (simp [lenOf, app]; omega) | (simp only [lenOf]; omega))) | (rw [wr_up]; rotate_left; (first | omega | (simp [lenOf, app]; omega) | (simp only [lenOf]; omega))) | ((first | rw [drop_cI] | rw [drop_cE] | rw [drop_cS] | rw [drop_cP] | rw [drop_cR]); rotate_left; assumption)); try simp only [go_sem, ↓reduceIte, Nat.reduceAdd, Nat.reduceEqDiff, Nat.reduceLT, Nat.reduceLeDiff, Nat.reduceBEq, Int.reduceEq, Int.reduceLT, Int.reduceLE]))
  · have he : askedErr S = checkSlate S := by simp [askedErr, hc]
    have hb : fewestP S = (0, 0) := by simp [fewestP, he, hc]
    have h74 := fun s => k74n S hc s
    rw [he, hb]
    generalize checkSlate S = c at h74 hc ⊢
    obtain ⟨w, es, ss⟩ := S
    obtain ⟨N, O, p, q⟩ := s
    (try simp only [go_sem, ↓reduceIte, Nat.reduceAdd, Nat.reduceEqDiff, Nat.reduceLT, Nat.reduceLeDiff, Nat.reduceBEq, Int.reduceEq, Int.reduceLT, Int.reduceLE]); (repeat ((first | simp only [h74] | rw [eq_n hc] | (rw [lt_yes]; rotate_left; (first | omega | (simp [lenOf, app]; omega) | (simp only [lenOf]; omega))) | (rw [lt_no]; rotate_left; (first | omega | (simp [lenOf, app]; omega) | (simp only [lenOf]; omega))) | (rw [idxA_at]; rotate_left; (first | omega | (simp [lenOf, app]; omega) | (simp only [lenOf]; omega))) | (rw [wr_up]; rotate_left; (first | omega | (simp [lenOf, app]; omega) | (simp only [lenOf]; omega))) | ((first | rw [drop_cI] | rw [drop_cE] | rw [drop_cS] | rw [drop_cP] | rw [drop_cR]); rotate_left; assumption)); try simp only [go_sem, ↓reduceIte, Nat.reduceAdd, Nat.reduceEqDiff, Nat.reduceLT, Nat.reduceLeDiff, Nat.reduceBEq, Int.reduceEq, Int.reduceLT, Int.reduceLE]))
end Go.Proofs.Ytlhfeiacigmliaa

/- The wash-house's soap: what the functions compute: a purse's groups. -/
namespace Go.Proofs.Ytlhfeiacigmliaa
open Go
set_option maxRecDepth 10000
set_option linter.unusedSectionVars false

def findI (a : Nat → Int) (w left : Nat) : Nat → Nat → Option Nat
  | _, 0 => none
  | i, k + 1 => if bsub w (pw i) ≠ w ∧ mostN a (bsub w (pw i)) = left then some i else findI a w left (i + 1) k
def leftN (a : Nat → Int) (w : Nat) : Nat := mostUp (mostN a) w 0 0 6
def grp (a : Nat → Int) : Nat → Nat → Nat → List (List Int)
  | 0, _, _ => []
  | f + 1, w, g => if w = 0 then [] else match findI a w (leftN a w) 0 6 with
    | none => []
    | some i => if sumA a (bsub w (pw i)) = 0 then bitsOf (bor g (pw i)) :: grp a f (bsub w (pw i)) 0 else grp a f (bsub w (pw i)) (bor g (pw i))
theorem bor_64 {g i : Nat} (hg : g < 64) (hi : i < 6) : bor g (pw i) < 64 := by
  unfold bor pw
  exact Nat.or_lt_two_pow (n := 6) hg (Nat.pow_lt_pow_right (by omega) hi)
theorem mostUp_ge (g : Nat → Nat) (w : Nat) : ∀ (k i n : Nat), n ≤ mostUp g w n i k
  | 0, _, _ => Nat.le_refl _
  | k + 1, i, n => by
    rw [mostUp]
    refine Nat.le_trans ?_ (mostUp_ge g w k (i + 1) _)
    split <;> omega
theorem mostUp_bit (g : Nat → Nat) (w : Nat) : ∀ (k i n j : Nat), i ≤ j → j < i + k → bmod (bshr w j) 2 = 1 → g (bsub w (pw j)) ≤ mostUp g w n i k
  | 0, i, n, j, h1, h2, _ => by omega
  | k + 1, i, n, j, h1, h2, ht => by
    rw [mostUp]
    by_cases he : i = j
    · subst he
      rw [if_pos ht]
      exact Nat.le_trans (Nat.le_max_right ..) (mostUp_ge ..)
    · exact mostUp_bit g w k (i + 1) _ j (by omega) (by omega) ht
theorem mostUp_att (g : Nat → Nat) (w : Nat) : ∀ (k i n : Nat), mostUp g w n i k = n ∨ ∃ j, i ≤ j ∧ j < i + k ∧ bmod (bshr w j) 2 = 1 ∧ g (bsub w (pw j)) = mostUp g w n i k
  | 0, _, _ => Or.inl rfl
  | k + 1, i, n => by
    rw [mostUp]
    by_cases ht : bmod (bshr w i) 2 = 1
    · rw [if_pos ht]
      rcases mostUp_att g w k (i + 1) (max n (g (bsub w (pw i)))) with h | ⟨j, h1, h2, h3, h4⟩
      · rw [h]
        rcases Nat.le_total n (g (bsub w (pw i))) with hle | hle
        · right; exact ⟨i, by omega, by omega, ht, by rw [Nat.max_eq_right hle]⟩
        · left; exact Nat.max_eq_left hle
      · right; exact ⟨j, by omega, by omega, h3, h4⟩
    · rw [if_neg ht]
      rcases mostUp_att g w k (i + 1) n with h | ⟨j, h1, h2, h3, h4⟩
      · left; exact h
      · right; exact ⟨j, by omega, by omega, h3, h4⟩
theorem has_bit {w : Nat} (h0 : w ≠ 0) (h : w < 64) : ∃ j, j < 6 ∧ bmod (bshr w j) 2 = 1 := by
  by_cases h1 : ∃ j, j < 6 ∧ bmod (bshr w j) 2 = 1
  · exact h1
  · exfalso
    apply h0
    apply Nat.eq_of_testBit_eq
    intro j
    rw [Nat.zero_testBit]
    by_cases hj : j < 6
    · have : ¬ bmod (bshr w j) 2 = 1 := fun h2 => h1 ⟨j, hj, h2⟩
      rw [Nat.testBit_eq_decide_div_mod_eq, decide_eq_false_iff_not]
      unfold bmod bshr at this; rwa [Nat.shiftRight_eq_div_pow] at this
    · exact Nat.testBit_lt_two_pow (Nat.lt_of_lt_of_le h (Nat.pow_le_pow_right (n := 2) (i := 6) (by omega) (by omega)))
theorem findI_some {a : Nat → Int} {w left : Nat} : ∀ (k i j : Nat), i ≤ j → j < i + k → bsub w (pw j) ≠ w → mostN a (bsub w (pw j)) = left → ∃ x, findI a w left i k = some x ∧ i ≤ x ∧ x < i + k ∧ bsub w (pw x) ≠ w
  | 0, i, j, h1, h2, _, _ => by omega
  | k + 1, i, j, h1, h2, h3, h4 => by
    rw [findI]
    by_cases he : bsub w (pw i) ≠ w ∧ mostN a (bsub w (pw i)) = left
    · rw [if_pos he]; exact ⟨i, rfl, by omega, by omega, he.1⟩
    · rw [if_neg he]
      have : i ≠ j := fun h => he (by subst h; exact ⟨h3, h4⟩)
      obtain ⟨x, g1, g2, g3, g4⟩ := findI_some k (i + 1) j (by omega) (by omega) h3 h4
      exact ⟨x, g1, by omega, by omega, g4⟩
theorem findI_ok (a : Nat → Int) {w : Nat} (h0 : w ≠ 0) (h : w < 64) : ∃ x, findI a w (leftN a w) 0 6 = some x ∧ x < 6 ∧ bsub w (pw x) < w := by
  have : ∃ j, j < 6 ∧ bmod (bshr w j) 2 = 1 ∧ mostN a (bsub w (pw j)) = leftN a w := by
    rcases mostUp_att (mostN a) w 6 0 0 with h1 | ⟨j, _, h2, h3, h4⟩
    · obtain ⟨j, hj, hb⟩ := has_bit h0 h
      have := mostUp_bit (mostN a) w 6 0 0 j (by omega) (by omega) hb
      exact ⟨j, hj, hb, by unfold leftN; omega⟩
    · exact ⟨j, by omega, h3, h4⟩
  obtain ⟨j, hj, hb, hm⟩ := this
  obtain ⟨x, g1, _, g2, g3⟩ := findI_some (a := a) (left := leftN a w) 6 0 j (by omega) (by omega) (Nat.ne_of_lt (bsub_lt hb)) hm
  exact ⟨x, g1, by omega, by have := bsub_le w (pw x); omega⟩
section
variable (a : Nat → Int) (m : Nat)
theorem l81_0 (out : AVal) (w g left : Nat) (hw : w < 64) (hg : g < 64) (p : Nat) (q : Nat → Nat) : ∀ (k i : Nat) (M : Nat) (Q : List AObj), i + k = 6 → MapsOk Memo [(a, m)] M Q →
    ∃ M' Q', Eff Memo [(a, m)] M Q M' Q' ∧ lim tbl (.loop a81_l0 58 ⟨[0, 2, 3, 4, 6, 24], [0, 2, 3, 4], []⟩ [.vref (c7 a m), out, i64 (Int.ofNat w), i64 (Int.ofNat g), i64 (Int.ofNat left), i64 (Int.ofNat i)]) ⟨M, Q, p, q⟩
      = some (.exit 2, [.vref (c7 a m), out, i64 (Int.ofNat (match findI a w left i k with | none => w | some x => bsub w (pw x))), i64 (Int.ofNat (match findI a w left i k with | none => g | some x => bor g (pw x)))], ⟨M', Q', p, q⟩) := by
  intro k
  induction k with
  | zero =>
    intro i M Q hi hm
    have h6 : ¬ Int.ofNat i < 6 := by simp; omega
    refine ⟨M, Q, Eff.refl hm, ?_⟩
    simp only [findI]
    rw [lim_loop]
    (try simp only [go_sem, ↓reduceIte, Nat.reduceAdd, Nat.reduceEqDiff, Nat.reduceLT, Nat.reduceLeDiff, Nat.reduceBEq, Int.reduceEq, Int.reduceLT, Int.reduceLE]); (repeat ((first | rw [lt_n h6] | (rw [lt_yes]; rotate_left; (first | omega | (simp [lenOf, app]; omega) | (simp only [lenOf]; omega))) | (rw [lt_no]; rotate_left; (first | omega | (simp [lenOf, app]; omega) | (simp only [lenOf]; omega))) | (rw [idxA_at]; rotate_left; (first | omega | (simp [lenOf, app]; omega) | (simp only [lenOf]; omega))) | (rw [wr_up]; rotate_left; (first | omega | (simp [lenOf, app]; omega) | (simp only [lenOf]; omega))) | ((first | rw [drop_cI] | rw [drop_cE] | rw [drop_cS] | rw [drop_cP] | rw [drop_cR]); rotate_left; assumption)); try simp only [go_sem, ↓reduceIte, Nat.reduceAdd, Nat.reduceEqDiff, Nat.reduceLT, Nat.reduceLeDiff, Nat.reduceBEq, Int.reduceEq, Int.reduceLT, Int.reduceLE]))
  | succ k ih =>
    intro i M Q hi hm
    have h6 : Int.ofNat i < 6 := by simp; omega
    have hpw : pw i < 9223372036854775808 := pw_lt (by omega)
    have hsh : shlI 1 (Int.ofNat i) = some (i64 (Int.ofNat (pw i))) := shl1_at (by omega)
    have hsub : bitsA .andNot .i64 (Int.ofNat w) (Int.ofNat (pw i)) = some (i64 (Int.ofNat (bsub w (pw i)))) := bits_sub (by omega) hpw
    have hor : bitsA .or .i64 (Int.ofNat g) (Int.ofNat (pw i)) = some (i64 (Int.ofNat (bor g (pw i)))) := bits_or (by omega) hpw
    have hle := bsub_le w (pw i)
    rw [findI]
    by_cases hb : bsub w (pw i) = w
    · obtain ⟨M', Q', hE, h'⟩ := ih (i + 1) M Q (by omega) hm
      refine ⟨M', Q', hE, ?_⟩
      rw [if_neg (fun h => h.1 hb), lim_loop]
      generalize hR : some (_, _, _) = R at h' ⊢
      (try simp only [go_sem, ↓reduceIte, Nat.reduceAdd, Nat.reduceEqDiff, Nat.reduceLT, Nat.reduceLeDiff, Nat.reduceBEq, Int.reduceEq, Int.reduceLT, Int.reduceLE]); (repeat ((first | rw [lt_y h6] | rw [hsh] | rw [hsub] | rw [eqN_y hb] | (rw [lt_yes]; rotate_left; (first | omega | (simp [lenOf, app]; omega) | (simp only [lenOf]; omega))) | (rw [lt_no]; rotate_left; (first | omega | (simp [lenOf, app]; omega) | (simp only [lenOf]; omega))) | (rw [idxA_at]; rotate_left; (first | omega | (simp [lenOf, app]; omega) | (simp only [lenOf]; omega))) | (rw [wr_up]; rotate_left; (first | omega | (simp [lenOf, app]; omega) | (simp only [lenOf]; omega))) | ((first | rw [drop_cI] | rw [drop_cE] | rw [drop_cS] | rw [drop_cP] | rw [drop_cR]); rotate_left; assumption)); try simp only [go_sem, ↓reduceIte, Nat.reduceAdd, Nat.reduceEqDiff, Nat.reduceLT, Nat.reduceLeDiff, Nat.reduceBEq, Int.reduceEq, Int.reduceLT, Int.reduceLE]))
      exact h'
    · obtain ⟨M1, Q1, hE1, hc⟩ := k112 a m p q (bsub w (pw i)) (by omega) M Q hm
      by_cases hl : mostN a (bsub w (pw i)) = left
      · refine ⟨M1, Q1, hE1, ?_⟩
        rw [if_pos ⟨hb, hl⟩, lim_loop]
        simp only
        generalize bsub w (pw i) = z at hsub hb hc hl ⊢
        generalize mostN a z = y at hc hl
        (try simp only [go_sem, ↓reduceIte, Nat.reduceAdd, Nat.reduceEqDiff, Nat.reduceLT, Nat.reduceLeDiff, Nat.reduceBEq, Int.reduceEq, Int.reduceLT, Int.reduceLE]); (repeat ((first | rw [lt_y h6] | rw [hsh] | rw [hsub] | rw [eqN_n hb] | rw [hc] | rw [eqN_y hl] | rw [hor] | (rw [lt_yes]; rotate_left; (first | omega | (simp [lenOf, app]; omega) | (simp only [lenOf]; omega))) | (rw [lt_no]; rotate_left; (first | omega | (simp [lenOf, app]; omega) | (simp only [lenOf]; omega))) | (rw [idxA_at]; rotate_left; (first | omega | (simp [lenOf, app]; omega) | (simp only [lenOf]; omega))) | (rw [wr_up]; rotate_left; (first | omega | (simp [lenOf, app]; omega) | (simp only [lenOf]; omega))) | ((first | rw [drop_cI] | rw [drop_cE] | rw [drop_cS] | rw [drop_cP] | rw [drop_cR]); rotate_left; assumption)); try simp only [go_sem, ↓reduceIte, Nat.reduceAdd, Nat.reduceEqDiff, Nat.reduceLT, Nat.reduceLeDiff, Nat.reduceBEq, Int.reduceEq, Int.reduceLT, Int.reduceLE]))
      · obtain ⟨M', Q', hE, h'⟩ := ih (i + 1) M1 Q1 (by omega) hE1.maps
        refine ⟨M', Q', hE1.trans hE, ?_⟩
        rw [if_neg (fun h => hl h.2), lim_loop]
        generalize hR : some (_, _, _) = R at h' ⊢
        (try simp only [go_sem, ↓reduceIte, Nat.reduceAdd, Nat.reduceEqDiff, Nat.reduceLT, Nat.reduceLeDiff, Nat.reduceBEq, Int.reduceEq, Int.reduceLT, Int.reduceLE]); (repeat ((first | rw [lt_y h6] | rw [hsh] | rw [hsub] | rw [eqN_n hb] | rw [hc] | rw [eqN_n hl] | (rw [lt_yes]; rotate_left; (first | omega | (simp [lenOf, app]; omega) | (simp only [lenOf]; omega))) | (rw [lt_no]; rotate_left; (first | omega | (simp [lenOf, app]; omega) | (simp only [lenOf]; omega))) | (rw [idxA_at]; rotate_left; (first | omega | (simp [lenOf, app]; omega) | (simp only [lenOf]; omega))) | (rw [wr_up]; rotate_left; (first | omega | (simp [lenOf, app]; omega) | (simp only [lenOf]; omega))) | ((first | rw [drop_cI] | rw [drop_cE] | rw [drop_cS] | rw [drop_cP] | rw [drop_cR]); rotate_left; assumption)); try simp only [go_sem, ↓reduceIte, Nat.reduceAdd, Nat.reduceEqDiff, Nat.reduceLT, Nat.reduceLeDiff, Nat.reduceBEq, Int.reduceEq, Int.reduceLT, Int.reduceLE]))
        exact h'
theorem l81_1 (p : Nat) (q : Nat → Nat) : ∀ (f w g : Nat) (acc : List (List Int)) (M : Nat) (Q : List AObj), w < f → w < 64 → g < 64 → acc.length + w < 1000 → MapsOk Memo [(a, m)] M Q →
    ∃ M' Q', Eff Memo [(a, m)] M Q M' Q' ∧ lim tbl (.loop a81_l1 58 ⟨[0, 2, 3, 4], [2], []⟩ [.vref (c7 a m), ownSl cL p acc, i64 (Int.ofNat w), i64 (Int.ofNat g)]) ⟨M, Q, roomP p (lenOf acc), roomC p q (lenOf acc)⟩
      = some (.exit 0, [ownSl cL p (app acc (grp a f w g))], ⟨M', Q', roomP p (lenOf (app acc (grp a f w g))), roomC p q (lenOf (app acc (grp a f w g)))⟩) := by
  intro f
  induction f with
  | zero => intro w g acc M Q h; omega
  | succ f ih =>
    intro w g acc M Q hf hw hg ha hm
    rw [grp]
    by_cases h0 : w = 0
    · refine ⟨M, Q, Eff.refl hm, ?_⟩
      have hn : ¬ (0 : Int) < Int.ofNat w := by simp; omega
      rw [if_pos h0, app_nil, lim_loop]
      (try simp only [go_sem, ↓reduceIte, Nat.reduceAdd, Nat.reduceEqDiff, Nat.reduceLT, Nat.reduceLeDiff, Nat.reduceBEq, Int.reduceEq, Int.reduceLT, Int.reduceLE]); (repeat ((first | rw [lt_n hn] | (rw [lt_yes]; rotate_left; (first | omega | (simp [lenOf, app]; omega) | (simp only [lenOf]; omega))) | (rw [lt_no]; rotate_left; (first | omega | (simp [lenOf, app]; omega) | (simp only [lenOf]; omega))) | (rw [idxA_at]; rotate_left; (first | omega | (simp [lenOf, app]; omega) | (simp only [lenOf]; omega))) | (rw [wr_up]; rotate_left; (first | omega | (simp [lenOf, app]; omega) | (simp only [lenOf]; omega))) | ((first | rw [drop_cI] | rw [drop_cE] | rw [drop_cS] | rw [drop_cP] | rw [drop_cR]); rotate_left; assumption)); try simp only [go_sem, ↓reduceIte, Nat.reduceAdd, Nat.reduceEqDiff, Nat.reduceLT, Nat.reduceLeDiff, Nat.reduceBEq, Int.reduceEq, Int.reduceLT, Int.reduceLE]))
    · have hpos : (0 : Int) < Int.ofNat w := by simp; omega
      obtain ⟨x, hx, hx6, hlt⟩ := findI_ok a h0 hw
      rw [if_neg h0, hx]
      simp only
      have hg' := bor_64 hg hx6
      have h111 := fun s => k111 a m w s
      have h111' := fun s => k111 a m (bsub w (pw x)) s
      have hmn : mostN a w = leftN a w + (if sumA a w = 0 then 1 else 0) := by rw [mostN_eq, if_neg h0]; rfl
      have hle := mostN_le a w
      obtain ⟨M1, Q1, hE1, h112⟩ := k112 a m (roomP p (lenOf acc)) (roomC p q (lenOf acc)) w hw (na M 1) (.cells [i64 (Int.ofNat w), i64 (sumA a w)] :: Q) (hm.push _)
      have hbm : M ≠ m := by
        obtain ⟨es, h1, _⟩ := hm (a, m) (by simp)
        have := gO_lt h1; simp only at this; omega
      have g1 := hE1.keep M _ (by simpa using hbm) (gO_new M Q (.cells [i64 (Int.ofNat w), i64 (sumA a w)]))
      have e1 : ∀ p' q', St.get ⟨M1, Q1, p', q'⟩ M = some (.cells [i64 (Int.ofNat w), i64 (sumA a w)]) := fun _ _ => g1
      obtain ⟨M2, Q2, hE2, hl⟩ := l81_0 a m (ownSl cL p acc) w g (leftN a w) hw hg (roomP p (lenOf acc)) (roomC p q (lenOf acc)) 6 0 M1 Q1 (by omega) hE1.maps
      rw [hx, ofNat_0] at hl
      simp only at hl
      have hE12 := (hE1.trans hE2).push
      have hp60 : pw 60 = 1152921504606846976 := by rfl
      have h113 := fun s => k113 (bor g (pw x)) (by omega) s
      by_cases hs' : sumA a (bsub w (pw x)) = 0
      · have happ := append_own (f := cL) (sz := 1) (fun _ => rfl) 24 p q M2 Q2 acc (bitsOf (bor g (pw x))) [sl cI (bitsOf (bor g (pw x)))] rfl .full (by omega) (by omega)
        obtain ⟨M', Q', hE3, h'⟩ := ih (bsub w (pw x)) 0 (app acc [bitsOf (bor g (pw x))]) M2 Q2 (by omega) (by omega) (by omega) (by simp [app]; omega) hE2.maps
        rw [ofNat_0] at h'
        refine ⟨M', Q', hE12.trans hE3, ?_⟩
        rw [if_pos hs', app_assoc, lim_loop]
        generalize hR : some (_, _, _) = R at h' ⊢
        by_cases hs : sumA a w = 0
        · rw [if_pos hs] at hmn
          have hw1 : wr .i64 (Int.sub (Int.ofNat (mostN a w)) 1) = Int.ofNat (leftN a w) := by
            rw [hmn, fold_sub, wr_in] <;> simp <;> omega
          (try simp only [go_sem, ↓reduceIte, Nat.reduceAdd, Nat.reduceEqDiff, Nat.reduceLT, Nat.reduceLeDiff, Nat.reduceBEq, Int.reduceEq, Int.reduceLT, Int.reduceLE]); (repeat ((first | rw [lt_y hpos] | simp only [h111] | rw [h112] | rw [e1] | rw [eq_y hs] | rw [hw1] | rw [hl] | simp only [h111'] | rw [eq_y hs'] | simp only [h113] | rw [happ] | (rw [lt_yes]; rotate_left; (first | omega | (simp [lenOf, app]; omega) | (simp only [lenOf]; omega))) | (rw [lt_no]; rotate_left; (first | omega | (simp [lenOf, app]; omega) | (simp only [lenOf]; omega))) | (rw [idxA_at]; rotate_left; (first | omega | (simp [lenOf, app]; omega) | (simp only [lenOf]; omega))) | (rw [wr_up]; rotate_left; (first | omega | (simp [lenOf, app]; omega) | (simp only [lenOf]; omega))) | ((first | rw [drop_cI] | rw [drop_cE] | rw [drop_cS] | rw [drop_cP] | rw [drop_cR]); rotate_left; assumption)); try simp only [go_sem, ↓reduceIte, Nat.reduceAdd, Nat.reduceEqDiff, Nat.reduceLT, Nat.reduceLeDiff, Nat.reduceBEq, Int.reduceEq, Int.reduceLT, Int.reduceLE]))
          exact h'
        · rw [if_neg hs, Nat.add_zero] at hmn
          rw [hmn] at h112
          (try simp only [go_sem, ↓reduceIte, Nat.reduceAdd, Nat.reduceEqDiff, Nat.reduceLT, Nat.reduceLeDiff, Nat.reduceBEq, Int.reduceEq, Int.reduceLT, Int.reduceLE]); (repeat ((first | rw [lt_y hpos] | simp only [h111] | rw [h112] | rw [e1] | rw [eq_n hs] | rw [hl] | simp only [h111'] | rw [eq_y hs'] | simp only [h113] | rw [happ] | (rw [lt_yes]; rotate_left; (first | omega | (simp [lenOf, app]; omega) | (simp only [lenOf]; omega))) | (rw [lt_no]; rotate_left; (first | omega | (simp [lenOf, app]; omega) | (simp only [lenOf]; omega))) | (rw [idxA_at]; rotate_left; (first | omega | (simp [lenOf, app]; omega) | (simp only [lenOf]; omega))) | (rw [wr_up]; rotate_left; (first | omega | (simp [lenOf, app]; omega) | (simp only [lenOf]; omega))) | ((first | rw [drop_cI] | rw [drop_cE] | rw [drop_cS] | rw [drop_cP] | rw [drop_cR]); rotate_left; assumption)); try simp only [go_sem, ↓reduceIte, Nat.reduceAdd, Nat.reduceEqDiff, Nat.reduceLT, Nat.reduceLeDiff, Nat.reduceBEq, Int.reduceEq, Int.reduceLT, Int.reduceLE]))
          exact h'
      · obtain ⟨M', Q', hE3, h'⟩ := ih (bsub w (pw x)) (bor g (pw x)) acc M2 Q2 (by omega) (by omega) hg' (by omega) hE2.maps
        refine ⟨M', Q', hE12.trans hE3, ?_⟩
        rw [if_neg hs', lim_loop]
        generalize hR : some (_, _, _) = R at h' ⊢
        by_cases hs : sumA a w = 0
        · rw [if_pos hs] at hmn
          have hw1 : wr .i64 (Int.sub (Int.ofNat (mostN a w)) 1) = Int.ofNat (leftN a w) := by
            rw [hmn, fold_sub, wr_in] <;> simp <;> omega
          (try simp only [go_sem, ↓reduceIte, Nat.reduceAdd, Nat.reduceEqDiff, Nat.reduceLT, Nat.reduceLeDiff, Nat.reduceBEq, Int.reduceEq, Int.reduceLT, Int.reduceLE]); (repeat ((first | rw [lt_y hpos] | simp only [h111] | rw [h112] | rw [e1] | rw [eq_y hs] | rw [hw1] | rw [hl] | simp only [h111'] | rw [eq_n hs'] | (rw [lt_yes]; rotate_left; (first | omega | (simp [lenOf, app]; omega) | (simp only [lenOf]; omega))) | (rw [lt_no]; rotate_left; (first | omega | (simp [lenOf, app]; omega) | (simp only [lenOf]; omega))) | (rw [idxA_at]; rotate_left; (first | omega | (simp [lenOf, app]; omega) | (simp only [lenOf]; omega))) | (rw [wr_up]; rotate_left; (first | omega | (simp [lenOf, app]; omega) | (simp only [lenOf]; omega))) | ((first | rw [drop_cI] | rw [drop_cE] | rw [drop_cS] | rw [drop_cP] | rw [drop_cR]); rotate_left; assumption)); try simp only [go_sem, ↓reduceIte, Nat.reduceAdd, Nat.reduceEqDiff, Nat.reduceLT, Nat.reduceLeDiff, Nat.reduceBEq, Int.reduceEq, Int.reduceLT, Int.reduceLE]))
          exact h'
        · rw [if_neg hs, Nat.add_zero] at hmn
          rw [hmn] at h112
          (try simp only [go_sem, ↓reduceIte, Nat.reduceAdd, Nat.reduceEqDiff, Nat.reduceLT, Nat.reduceLeDiff, Nat.reduceBEq, Int.reduceEq, Int.reduceLT, Int.reduceLE]); (repeat ((first | rw [lt_y hpos] | simp only [h111] | rw [h112] | rw [e1] | rw [eq_n hs] | rw [hl] | simp only [h111'] | rw [eq_n hs'] | (rw [lt_yes]; rotate_left; (first | omega | (simp [lenOf, app]; omega) | (simp only [lenOf]; omega))) | (rw [lt_no]; rotate_left; (first | omega | (simp [lenOf, app]; omega) | (simp only [lenOf]; omega))) | (rw [idxA_at]; rotate_left; (first | omega | (simp [lenOf, app]; omega) | (simp only [lenOf]; omega))) | (rw [wr_up]; rotate_left; (first | omega | (simp [lenOf, app]; omega) | (simp only [lenOf]; omega))) | ((first | rw [drop_cI] | rw [drop_cE] | rw [drop_cS] | rw [drop_cP] | rw [drop_cR]); rotate_left; assumption)); try simp only [go_sem, ↓reduceIte, Nat.reduceAdd, Nat.reduceEqDiff, Nat.reduceLT, Nat.reduceLeDiff, Nat.reduceBEq, Int.reduceEq, Int.reduceLT, Int.reduceLE]))
          exact h'
def groupsA : List (List Int) := grp a 64 (openN a) 0
theorem k81 (p : Nat) (q : Nat → Nat) (M : Nat) (Q : List AObj) (hm : MapsOk Memo [(a, m)] M Q) : ∃ M' Q', Eff Memo [(a, m)] M Q M' Q' ∧
    lim tbl (.call 81 [.vref (c7 a m)]) ⟨M, Q, p, q⟩ = some (.ret, [ownSl cL p (groupsA a)], ⟨M', Q', roomP p (lenOf (groupsA a)), roomC p q (lenOf (groupsA a))⟩) := by
  have h110 := fun s => k110 a m s
  have ho := openN_lt a
  obtain ⟨M', Q', hE, h0⟩ := l81_1 a m p q 64 (openN a) 0 [] M Q ho ho (by omega) (by simp; omega) hm
  rw [nil_app, ownSl_nil, show lenOf ([] : List (List Int)) = 0 from rfl, roomP_0, roomC_0, ofNat_0] at h0
  change _ = some (_, [ownSl cL p (groupsA a)], (⟨_, _, roomP p (lenOf (groupsA a)), roomC p q (lenOf (groupsA a))⟩ : St)) at h0
  refine ⟨M', Q', hE, ?_⟩
  rw [lim_call tbl_81]
  generalize groupsA a = G at h0 ⊢
  (try simp only [go_sem, ↓reduceIte, Nat.reduceAdd, Nat.reduceEqDiff, Nat.reduceLT, Nat.reduceLeDiff, Nat.reduceBEq, Int.reduceEq, Int.reduceLT, Int.reduceLE]); (repeat ((first | simp only [h110] | rw [h0] | (rw [lt_yes]; rotate_left; (first | omega | (simp [lenOf, app]; omega) | (simp only [lenOf]; omega))) | (rw [lt_no]; rotate_left; (first | omega | (simp [lenOf, app]; omega) | (simp only [lenOf]; omega))) | (rw [idxA_at]; rotate_left; (first | omega | (simp [lenOf, app]; omega) | (simp only [lenOf]; omega))) | (rw [wr_up]; rotate_left; (first | omega | (simp [lenOf, app]; omega) | (simp only [lenOf]; omega))) | ((first | rw [drop_cI] | rw [drop_cE] | rw [drop_cS] | rw [drop_cP] | rw [drop_cR]); rotate_left; assumption)); try simp only [go_sem, ↓reduceIte, Nat.reduceAdd, Nat.reduceEqDiff, Nat.reduceLT, Nat.reduceLeDiff, Nat.reduceBEq, Int.reduceEq, Int.reduceLT, Int.reduceLE]))
end
/-- What Groups returns. -/
def groupsP (S : Slate) (L : List Int) : List (List Int) := if playErr S L = 0 then groupsA (playOw S L) else []
theorem k30 (S : Slate) (L : List Int) (s : St) : lim tbl (.call 30 [vSl S, sl cI L]) s = some (.ret, [.tup [sl cL (groupsP S L), i64 (playErr S L)]], s) := by
  have h79 := fun s => k79 S L good_of_check s
  rw [lim_call tbl_30]
  by_cases he : playErr S L = 0
  · have hb : groupsP S L = groupsA (playOw S L) := by simp [groupsP, he]
    rw [hb, he]
    rw [he] at h79
    generalize playOw S L = a at h79 ⊢
    obtain ⟨N, O, p, q⟩ := s
    have h80 := k80 a (na N 1) (.cells (c6 a) :: O) p q
    obtain ⟨M', Q', hE, h81⟩ := k81 a (na N 1) p q (na (na N 1) 1) (.map true [] :: .cells (c6 a) :: O) (fun x hx => by
      simp only [List.mem_singleton] at hx; subst hx
      exact ⟨[], gO_new .., fun y hy => by simp at hy⟩)
    have hold := (hE.old N O (by simp [na]) (((OldO.refl N O).push _).push _)).oldr p q (roomP p (lenOf (groupsA a))) (lenOf (groupsA a))
    obtain ⟨w, es, ss⟩ := S
    generalize groupsA a = G at h81 hold ⊢
    (try simp only [go_sem, ↓reduceIte, Nat.reduceAdd, Nat.reduceEqDiff, Nat.reduceLT, Nat.reduceLeDiff, Nat.reduceBEq, Int.reduceEq, Int.reduceLT, Int.reduceLE]); (repeat ((first | simp only [h79] | rw [h80] | rw [h81] | rw [hold] | (rw [lt_yes]; rotate_left; (first | omega | (simp [lenOf, app]; omega) | (simp only [lenOf]; omega))) | (rw [lt_no]; rotate_left; (first | omega | (simp [lenOf, app]; omega) | (simp only [lenOf]; omega))) | (rw [idxA_at]; rotate_left; (first | omega | (simp [lenOf, app]; omega) | (simp only [lenOf]; omega))) | (rw [wr_up]; rotate_left; (first | omega | (simp [lenOf, app]; omega) | (simp only [lenOf]; omega))) | ((first | rw [drop_cI] | rw [drop_cE] | rw [drop_cS] | rw [drop_cP] | rw [drop_cR]); rotate_left; assumption)); try simp only [go_sem, ↓reduceIte, Nat.reduceAdd, Nat.reduceEqDiff, Nat.reduceLT, Nat.reduceLeDiff, Nat.reduceBEq, Int.reduceEq, Int.reduceLT, Int.reduceLE]))
  · have hb : groupsP S L = [] := by simp [groupsP, he]
    rw [hb]
    generalize playErr S L = e at h79 he ⊢
    generalize playOw S L = A at h79 ⊢
    obtain ⟨w, es, ss⟩ := S
    obtain ⟨N, O, p, q⟩ := s
    (try simp only [go_sem, ↓reduceIte, Nat.reduceAdd, Nat.reduceEqDiff, Nat.reduceLT, Nat.reduceLeDiff, Nat.reduceBEq, Int.reduceEq, Int.reduceLT, Int.reduceLE]); (repeat ((first | simp only [h79] | rw [eq_n he] | (rw [lt_yes]; rotate_left; (first | omega | (simp [lenOf, app]; omega) | (simp only [lenOf]; omega))) | (rw [lt_no]; rotate_left; (first | omega | (simp [lenOf, app]; omega) | (simp only [lenOf]; omega))) | (rw [idxA_at]; rotate_left; (first | omega | (simp [lenOf, app]; omega) | (simp only [lenOf]; omega))) | (rw [wr_up]; rotate_left; (first | omega | (simp [lenOf, app]; omega) | (simp only [lenOf]; omega))) | ((first | rw [drop_cI] | rw [drop_cE] | rw [drop_cS] | rw [drop_cP] | rw [drop_cR]); rotate_left; assumption)); try simp only [go_sem, ↓reduceIte, Nat.reduceAdd, Nat.reduceEqDiff, Nat.reduceLT, Nat.reduceLeDiff, Nat.reduceBEq, Int.reduceEq, Int.reduceLT, Int.reduceLE]))
end Go.Proofs.Ytlhfeiacigmliaa

/- The wash-house's soap: what the functions compute: payments that settle. -/
namespace Go.Proofs.Ytlhfeiacigmliaa
open Go
set_option maxRecDepth 10000

theorem k115 (a : Nat → Int) (b j : Nat) (hj : j < 6) (s : St) (hg : s.get b = some (.cells (c6 a))) : lim tbl (.call 115 [i64 (Int.ofNat j), .ptr b 0]) s = some (.ret, [.bool (decide (a j < 0))], s) := by
  have hn := nthO_c6 a hj
  have hi : idxA (i64 (Int.ofNat j)) 6 = some j := idxA_at hj
  rw [lim_call tbl_115]; obtain ⟨N, O, p, q⟩ := s
  (try simp only [go_sem, ↓reduceIte, Nat.reduceAdd, Nat.reduceEqDiff, Nat.reduceLT, Nat.reduceLeDiff, Nat.reduceBEq, Int.reduceEq, Int.reduceLT, Int.reduceLE]); (repeat ((first | rw [hi] | rw [hg] | rw [hn] | (rw [lt_yes]; rotate_left; (first | omega | (simp [lenOf, app]; omega) | (simp only [lenOf]; omega))) | (rw [lt_no]; rotate_left; (first | omega | (simp [lenOf, app]; omega) | (simp only [lenOf]; omega))) | (rw [idxA_at]; rotate_left; (first | omega | (simp [lenOf, app]; omega) | (simp only [lenOf]; omega))) | (rw [wr_up]; rotate_left; (first | omega | (simp [lenOf, app]; omega) | (simp only [lenOf]; omega))) | ((first | rw [drop_cI] | rw [drop_cE] | rw [drop_cS] | rw [drop_cP] | rw [drop_cR]); rotate_left; assumption)); try simp only [go_sem, ↓reduceIte, Nat.reduceAdd, Nat.reduceEqDiff, Nat.reduceLT, Nat.reduceLeDiff, Nat.reduceBEq, Int.reduceEq, Int.reduceLT, Int.reduceLE]))
theorem k116 (a : Nat → Int) (b j : Nat) (hj : j < 6) (s : St) (hg : s.get b = some (.cells (c6 a))) : lim tbl (.call 116 [i64 (Int.ofNat j), .ptr b 0]) s = some (.ret, [.bool (decide (0 < a j))], s) := by
  have hn := nthO_c6 a hj
  have hi : idxA (i64 (Int.ofNat j)) 6 = some j := idxA_at hj
  rw [lim_call tbl_116]; obtain ⟨N, O, p, q⟩ := s
  (try simp only [go_sem, ↓reduceIte, Nat.reduceAdd, Nat.reduceEqDiff, Nat.reduceLT, Nat.reduceLeDiff, Nat.reduceBEq, Int.reduceEq, Int.reduceLT, Int.reduceLE]); (repeat ((first | rw [hi] | rw [hg] | rw [hn] | (rw [lt_yes]; rotate_left; (first | omega | (simp [lenOf, app]; omega) | (simp only [lenOf]; omega))) | (rw [lt_no]; rotate_left; (first | omega | (simp [lenOf, app]; omega) | (simp only [lenOf]; omega))) | (rw [idxA_at]; rotate_left; (first | omega | (simp [lenOf, app]; omega) | (simp only [lenOf]; omega))) | (rw [wr_up]; rotate_left; (first | omega | (simp [lenOf, app]; omega) | (simp only [lenOf]; omega))) | ((first | rw [drop_cI] | rw [drop_cE] | rw [drop_cS] | rw [drop_cP] | rw [drop_cR]); rotate_left; assumption)); try simp only [go_sem, ↓reduceIte, Nat.reduceAdd, Nat.reduceEqDiff, Nat.reduceLT, Nat.reduceLeDiff, Nat.reduceBEq, Int.reduceEq, Int.reduceLT, Int.reduceLE]))
theorem l114 {P : Nat → Bool} {G : AVal} (s : St) (gs : List Nat) (hl : gs.length < 1000000) (hG : ∀ e ∈ gs, callA (lim tbl) G [i64 (Int.ofNat e)] s = some (.bool (P e), s)) : ∀ (k i : Nat), i + k = gs.length → ∀ R,
    R = (match (gs.drop i).findIdx? P with | some j => some (.ret, [i64 (Int.ofNat (i + j))], s) | none => some (.exit 0, [], s)) →
    lim tbl (.loop a114_l0 19 ⟨[0, 1, 7, 8], [], [4]⟩ [sl cI (ints gs), G, i64 (Int.ofNat (lenOf (ints gs))), i64 (Int.ofNat i)]) s = R := by
  intro k
  have hlm : lenOf (ints gs) = gs.length := by simp [lenOf, ints]
  induction k with
  | zero =>
    intro i hi R hR
    rw [List.drop_eq_nil_of_le (by omega)] at hR
    simp only [List.findIdx?_nil] at hR
    rw [lim_loop]; obtain ⟨N, O, p, q⟩ := s
    (try simp only [go_sem, ↓reduceIte, Nat.reduceAdd, Nat.reduceEqDiff, Nat.reduceLT, Nat.reduceLeDiff, Nat.reduceBEq, Int.reduceEq, Int.reduceLT, Int.reduceLE]); (repeat ((first | (rw [lt_yes]; rotate_left; (first | omega | (simp [lenOf, app]; omega) | (simp only [lenOf]; omega))) | (rw [lt_no]; rotate_left; (first | omega | (simp [lenOf, app]; omega) | (simp only [lenOf]; omega))) | (rw [idxA_at]; rotate_left; (first | omega | (simp [lenOf, app]; omega) | (simp only [lenOf]; omega))) | (rw [wr_up]; rotate_left; (first | omega | (simp [lenOf, app]; omega) | (simp only [lenOf]; omega))) | ((first | rw [drop_cI] | rw [drop_cE] | rw [drop_cS] | rw [drop_cP] | rw [drop_cR]); rotate_left; assumption)); try simp only [go_sem, ↓reduceIte, Nat.reduceAdd, Nat.reduceEqDiff, Nat.reduceLT, Nat.reduceLeDiff, Nat.reduceBEq, Int.reduceEq, Int.reduceLT, Int.reduceLE]))
    exact hR.symm
  | succ k ih =>
    intro i hi R hR
    have hlt : i < gs.length := by omega
    obtain ⟨e, he, hd⟩ := getElem_drop hlt
    have he' := map_get he
    have hGe := hG e (List.mem_of_getElem? he)
    have hix : idxA (i64 (Int.ofNat i)) (lenOf (ints gs)) = some i := idxA_at (by simp [lenOf, ints]; omega)
    rw [hd, List.findIdx?_cons] at hR
    rw [lim_loop]
    cases hP : P e with
    | true =>
      rw [hP] at hGe hR
      simp only [if_true, Nat.add_zero] at hR
      obtain ⟨N, O, p, q⟩ := s
      (try simp only [go_sem, ↓reduceIte, Nat.reduceAdd, Nat.reduceEqDiff, Nat.reduceLT, Nat.reduceLeDiff, Nat.reduceBEq, Int.reduceEq, Int.reduceLT, Int.reduceLE]); (repeat ((first | rw [hix] | rw [hGe] | (rw [lt_yes]; rotate_left; (first | omega | (simp [lenOf, app]; omega) | (simp only [lenOf]; omega))) | (rw [lt_no]; rotate_left; (first | omega | (simp [lenOf, app]; omega) | (simp only [lenOf]; omega))) | (rw [idxA_at]; rotate_left; (first | omega | (simp [lenOf, app]; omega) | (simp only [lenOf]; omega))) | (rw [wr_up]; rotate_left; (first | omega | (simp [lenOf, app]; omega) | (simp only [lenOf]; omega))) | ((first | rw [drop_cI] | rw [drop_cE] | rw [drop_cS] | rw [drop_cP] | rw [drop_cR]); rotate_left; assumption)); try simp only [go_sem, ↓reduceIte, Nat.reduceAdd, Nat.reduceEqDiff, Nat.reduceLT, Nat.reduceLeDiff, Nat.reduceBEq, Int.reduceEq, Int.reduceLT, Int.reduceLE]))
      exact hR.symm
    | false =>
      rw [hP] at hGe hR
      have h' := ih (i + 1) (by omega) R (by
        rw [hR]; simp only [Bool.false_eq_true, if_false]
        cases (gs.drop (i + 1)).findIdx? P with
        | none => rfl
        | some j => simp only [Option.map_some]; rw [show i + (j + 1) = i + 1 + j by omega])
      obtain ⟨N, O, p, q⟩ := s
      (try simp only [go_sem, ↓reduceIte, Nat.reduceAdd, Nat.reduceEqDiff, Nat.reduceLT, Nat.reduceLeDiff, Nat.reduceBEq, Int.reduceEq, Int.reduceLT, Int.reduceLE]); (repeat ((first | rw [hix] | rw [hGe] | (rw [lt_yes]; rotate_left; (first | omega | (simp [lenOf, app]; omega) | (simp only [lenOf]; omega))) | (rw [lt_no]; rotate_left; (first | omega | (simp [lenOf, app]; omega) | (simp only [lenOf]; omega))) | (rw [idxA_at]; rotate_left; (first | omega | (simp [lenOf, app]; omega) | (simp only [lenOf]; omega))) | (rw [wr_up]; rotate_left; (first | omega | (simp [lenOf, app]; omega) | (simp only [lenOf]; omega))) | ((first | rw [drop_cI] | rw [drop_cE] | rw [drop_cS] | rw [drop_cP] | rw [drop_cR]); rotate_left; assumption)); try simp only [go_sem, ↓reduceIte, Nat.reduceAdd, Nat.reduceEqDiff, Nat.reduceLT, Nat.reduceLeDiff, Nat.reduceBEq, Int.reduceEq, Int.reduceLT, Int.reduceLE]))
      exact h'
theorem k114 {P : Nat → Bool} {f : Nat} {b : Nat} (s : St) (gs : List Nat) (hl : gs.length < 1000000) (hG : ∀ e ∈ gs, callA (lim tbl) (.fn (.func f) [] [.ptr b 0]) [i64 (Int.ofNat e)] s = some (.bool (P e), s)) :
    lim tbl (.call 114 [sl cI (ints gs), .fn (.func f) [] [.ptr b 0]]) s = some (.ret, [i64 (match gs.findIdx? P with | some j => Int.ofNat j | none => -1)], s) := by
  have h0 := l114 s gs hl hG gs.length 0 (by omega) _ rfl
  rw [List.drop_zero, ofNat_0] at h0
  rw [lim_call tbl_114]; obtain ⟨N, O, p, q⟩ := s
  cases hf : gs.findIdx? P with
  | some j =>
    rw [hf] at h0
    simp only [Nat.zero_add] at h0 ⊢
    (try simp only [go_sem, ↓reduceIte, Nat.reduceAdd, Nat.reduceEqDiff, Nat.reduceLT, Nat.reduceLeDiff, Nat.reduceBEq, Int.reduceEq, Int.reduceLT, Int.reduceLE]); (repeat ((first | rw [h0] | (rw [lt_yes]; rotate_left; (first | omega | (simp [lenOf, app]; omega) | (simp only [lenOf]; omega))) | (rw [lt_no]; rotate_left; (first | omega | (simp [lenOf, app]; omega) | (simp only [lenOf]; omega))) | (rw [idxA_at]; rotate_left; (first | omega | (simp [lenOf, app]; omega) | (simp only [lenOf]; omega))) | (rw [wr_up]; rotate_left; (first | omega | (simp [lenOf, app]; omega) | (simp only [lenOf]; omega))) | ((first | rw [drop_cI] | rw [drop_cE] | rw [drop_cS] | rw [drop_cP] | rw [drop_cR]); rotate_left; assumption)); try simp only [go_sem, ↓reduceIte, Nat.reduceAdd, Nat.reduceEqDiff, Nat.reduceLT, Nat.reduceLeDiff, Nat.reduceBEq, Int.reduceEq, Int.reduceLT, Int.reduceLE]))
  | none =>
    rw [hf] at h0
    simp only at h0 ⊢
    (try simp only [go_sem, ↓reduceIte, Nat.reduceAdd, Nat.reduceEqDiff, Nat.reduceLT, Nat.reduceLeDiff, Nat.reduceBEq, Int.reduceEq, Int.reduceLT, Int.reduceLE]); (repeat ((first | rw [h0] | (rw [lt_yes]; rotate_left; (first | omega | (simp [lenOf, app]; omega) | (simp only [lenOf]; omega))) | (rw [lt_no]; rotate_left; (first | omega | (simp [lenOf, app]; omega) | (simp only [lenOf]; omega))) | (rw [idxA_at]; rotate_left; (first | omega | (simp [lenOf, app]; omega) | (simp only [lenOf]; omega))) | (rw [wr_up]; rotate_left; (first | omega | (simp [lenOf, app]; omega) | (simp only [lenOf]; omega))) | ((first | rw [drop_cI] | rw [drop_cE] | rw [drop_cS] | rw [drop_cP] | rw [drop_cR]); rotate_left; assumption)); try simp only [go_sem, ↓reduceIte, Nat.reduceAdd, Nat.reduceEqDiff, Nat.reduceLT, Nat.reduceLeDiff, Nat.reduceBEq, Int.reduceEq, Int.reduceLT, Int.reduceLE]))
/-- The payments that settle a group. -/
def settleF : Nat → (Nat → Int) → List Nat → List Pay
  | 0, _, _ => []
  | f + 1, a, gs => match gs.findIdx? (fun j => decide (a j < 0)), gs.findIdx? (fun j => decide (0 < a j)) with
    | some i, some k =>
      let x := gs.getD i 0
      let y := gs.getD k 0
      let n := mn (-a x) (a y)
      ⟨Int.ofNat x, Int.ofNat y, n⟩ :: settleF f (put (put a x (a x + n)) y (put a x (a x + n) y - n)) gs
    | _, _ => []
/-- How many of a group are owed something. -/
def openC (a : Nat → Int) : List Nat → Nat
  | [] => 0
  | j :: gs => (if a j = 0 then 0 else 1) + openC a gs
theorem find_get {gs : List Nat} {P : Nat → Bool} {i : Nat} (h : gs.findIdx? P = some i) : ∃ hi : i < gs.length, P gs[i] = true := by
  rw [List.findIdx?_eq_some_iff_getElem] at h
  exact ⟨h.1, h.2.1⟩
theorem openC_le {a a' : Nat → Int} : ∀ {gs : List Nat} (_ : ∀ j ∈ gs, a j = 0 → a' j = 0), openC a' gs ≤ openC a gs
  | [], _ => Nat.le_refl _
  | y :: gs, h => by
    have ih := openC_le (gs := gs) fun j hj => h j (by simp [hj])
    have hy := h y (by simp)
    simp only [openC]
    split <;> split <;> first | omega | (rename_i h1 h2; exact absurd (hy h2) h1)
theorem openC_lt {a a' : Nat → Int} {gs : List Nat} (h : ∀ j ∈ gs, a j = 0 → a' j = 0) {j : Nat} (hj : j ∈ gs) (h1 : a j ≠ 0) (h2 : a' j = 0) : openC a' gs < openC a gs := by
  induction gs with
  | nil => simp at hj
  | cons x gs ih =>
    simp only [openC]
    by_cases hx : x = j
    · subst hx
      have := openC_le (gs := gs) fun j hj => h j (by simp [hj])
      rw [if_pos h2, if_neg h1]; omega
    · have hj' : j ∈ gs := by
        simp only [List.mem_cons] at hj
        rcases hj with hj | hj
        · exact absurd hj.symm hx
        · exact hj
      have ih' := ih (fun j hj => h j (by simp [hj])) hj'
      have hy := h x (by simp)
      split <;> split <;> first | omega | (rename_i g1 g2; exact absurd (hy g2) g1)
theorem openC_len (a : Nat → Int) : ∀ gs : List Nat, openC a gs ≤ gs.length
  | [] => Nat.le_refl _
  | j :: gs => by have := openC_len a gs; simp only [openC, List.length_cons]; split <;> omega
def Small (a : Nat → Int) : Prop := ∀ j, -1000000000 ≤ a j ∧ a j ≤ 1000000000
theorem l91 (gs : List Nat) (hgs : ∀ j ∈ gs, j < 6) (hl : gs.length < 1000) (N : Nat) (O : List AObj) (p : Nat) (q : Nat → Nat) : ∀ (f : Nat) (a : Nat → Int) (acc : List Pay), openC a gs < f → acc.length + f < 10000 → Small a →
    ∃ a', lim tbl (.loop a91_l0 64 ⟨[1, 4, 5], [], [4]⟩ [sl cI (ints gs), ownSl cP p acc, .ptr N 0]) ⟨na N 1, .cells (c6 a) :: O, roomP p (lenOf acc), roomC p q (lenOf acc)⟩
      = some (.ret, [ownSl cP p (app acc (settleF f a gs))], ⟨na N 1, .cells (c6 a') :: O, roomP p (lenOf (app acc (settleF f a gs))), roomC p q (lenOf (app acc (settleF f a gs)))⟩) := by
  intro f
  induction f with
  | zero => intro a acc h; omega
  | succ f ih =>
    intro a acc hf hacc hs
    have hG1 : ∀ p' q', ∀ e ∈ gs, callA (lim tbl) (.fn (.func 115) [] [.ptr N 0]) [i64 (Int.ofNat e)] ⟨na N 1, .cells (c6 a) :: O, p', q'⟩ = some (.bool (decide (a e < 0)), ⟨na N 1, .cells (c6 a) :: O, p', q'⟩) := fun p' q' e he => by
      have := k115 a N e (hgs e he) ⟨na N 1, .cells (c6 a) :: O, p', q'⟩ (get_1_0 ..)
      show (if 115 < 4096 then one (lim tbl (.call 115 [i64 (Int.ofNat e), .ptr N 0]) _) else none) = _
      rw [if_pos (by omega), this]; rfl
    have hG2 : ∀ p' q', ∀ e ∈ gs, callA (lim tbl) (.fn (.func 116) [] [.ptr N 0]) [i64 (Int.ofNat e)] ⟨na N 1, .cells (c6 a) :: O, p', q'⟩ = some (.bool (decide (0 < a e)), ⟨na N 1, .cells (c6 a) :: O, p', q'⟩) := fun p' q' e he => by
      have := k116 a N e (hgs e he) ⟨na N 1, .cells (c6 a) :: O, p', q'⟩ (get_1_0 ..)
      show (if 116 < 4096 then one (lim tbl (.call 116 [i64 (Int.ofNat e), .ptr N 0]) _) else none) = _
      rw [if_pos (by omega), this]; rfl
    have c1 := fun p' q' => k114 (P := fun j => decide (a j < 0)) ⟨na N 1, .cells (c6 a) :: O, p', q'⟩ gs (by omega) (hG1 p' q')
    have c2 := fun p' q' => k114 (P := fun j => decide (0 < a j)) ⟨na N 1, .cells (c6 a) :: O, p', q'⟩ gs (by omega) (hG2 p' q')
    have hneg : ((-1 : Int) < 0) := by omega
    rw [settleF]
    cases h1 : gs.findIdx? (fun j => decide (a j < 0)) with
    | none =>
      rw [h1] at c1
      refine ⟨a, ?_⟩
      simp only [app_nil] at c1 ⊢
      rw [lim_loop]
      (try simp only [go_sem, ↓reduceIte, Nat.reduceAdd, Nat.reduceEqDiff, Nat.reduceLT, Nat.reduceLeDiff, Nat.reduceBEq, Int.reduceEq, Int.reduceLT, Int.reduceLE]); (repeat ((first | rw [c1] | rw [c2] | rw [lt_y hneg] | (rw [lt_yes]; rotate_left; (first | omega | (simp [lenOf, app]; omega) | (simp only [lenOf]; omega))) | (rw [lt_no]; rotate_left; (first | omega | (simp [lenOf, app]; omega) | (simp only [lenOf]; omega))) | (rw [idxA_at]; rotate_left; (first | omega | (simp [lenOf, app]; omega) | (simp only [lenOf]; omega))) | (rw [wr_up]; rotate_left; (first | omega | (simp [lenOf, app]; omega) | (simp only [lenOf]; omega))) | ((first | rw [drop_cI] | rw [drop_cE] | rw [drop_cS] | rw [drop_cP] | rw [drop_cR]); rotate_left; assumption)); try simp only [go_sem, ↓reduceIte, Nat.reduceAdd, Nat.reduceEqDiff, Nat.reduceLT, Nat.reduceLeDiff, Nat.reduceBEq, Int.reduceEq, Int.reduceLT, Int.reduceLE]))
    | some i =>
      rw [h1] at c1
      have hi0 : ¬ (Int.ofNat i) < 0 := by simp
      cases h2 : gs.findIdx? (fun j => decide (0 < a j)) with
      | none =>
        rw [h2] at c2
        refine ⟨a, ?_⟩
        simp only [app_nil] at c1 c2 ⊢
        rw [lim_loop]
        (try simp only [go_sem, ↓reduceIte, Nat.reduceAdd, Nat.reduceEqDiff, Nat.reduceLT, Nat.reduceLeDiff, Nat.reduceBEq, Int.reduceEq, Int.reduceLT, Int.reduceLE]); (repeat ((first | rw [c1] | rw [c2] | rw [lt_n hi0] | rw [lt_y hneg] | (rw [lt_yes]; rotate_left; (first | omega | (simp [lenOf, app]; omega) | (simp only [lenOf]; omega))) | (rw [lt_no]; rotate_left; (first | omega | (simp [lenOf, app]; omega) | (simp only [lenOf]; omega))) | (rw [idxA_at]; rotate_left; (first | omega | (simp [lenOf, app]; omega) | (simp only [lenOf]; omega))) | (rw [wr_up]; rotate_left; (first | omega | (simp [lenOf, app]; omega) | (simp only [lenOf]; omega))) | ((first | rw [drop_cI] | rw [drop_cE] | rw [drop_cS] | rw [drop_cP] | rw [drop_cR]); rotate_left; assumption)); try simp only [go_sem, ↓reduceIte, Nat.reduceAdd, Nat.reduceEqDiff, Nat.reduceLT, Nat.reduceLeDiff, Nat.reduceBEq, Int.reduceEq, Int.reduceLT, Int.reduceLE]))
      | some k =>
        rw [h2] at c2
        have hk0 : ¬ (Int.ofNat k) < 0 := by simp
        obtain ⟨hil, hia⟩ := find_get h1
        obtain ⟨hkl, hka⟩ := find_get h2
        simp only [decide_eq_true_eq] at hia hka
        have gx : gs.getD i 0 = gs[i] := by simp [hil]
        have gy : gs.getD k 0 = gs[k] := by simp [hkl]
        simp only [gx, gy]
        have mx' : gs[i] ∈ gs := List.getElem_mem hil
        have my' : gs[k] ∈ gs := List.getElem_mem hkl
        have ix : (ints gs)[i]? = some (Int.ofNat gs[i]) := map_get (List.getElem?_eq_getElem hil)
        have iy : (ints gs)[k]? = some (Int.ofNat gs[k]) := map_get (List.getElem?_eq_getElem hkl)
        generalize gs[i] = x at hia mx' ix ⊢
        generalize gs[k] = y at hka my' iy ⊢
        have hx6 := hgs x mx'
        have hy6 := hgs y my'
        have hxy : x ≠ y := fun h => by subst h; omega
        have hix : idxA (i64 (Int.ofNat i)) (lenOf (ints gs)) = some i := idxA_at (by simp [lenOf, ints]; omega)
        have hiy : idxA (i64 (Int.ofNat k)) (lenOf (ints gs)) = some k := idxA_at (by simp [lenOf, ints]; omega)
        have dx := drop_cI ix
        have dy := drop_cI iy
        have jx : idxA (i64 (Int.ofNat x)) 6 = some x := idxA_at hx6
        have jy : idxA (i64 (Int.ofNat y)) 6 = some y := idxA_at hy6
        have sx := hs x
        have sy := hs y
        have wneg : wr .i64 (Int.sub 0 (a x)) = -a x := by rw [fold_sub, wr_in] <;> omega
        have hn : mn (-a x) (a y) = -a x ∨ mn (-a x) (a y) = a y := by unfold mn; omega
        have hnp : 0 < mn (-a x) (a y) ∧ mn (-a x) (a y) ≤ -a x ∧ mn (-a x) (a y) ≤ a y := by unfold mn; omega
        generalize hnn : mn (-a x) (a y) = n at hn hnp ⊢
        have wadd : wr .i64 (Int.add (a x) n) = a x + n := by rw [fold_add, wr_in] <;> omega
        have hpy : put a x (a x + n) y = a y := by simp [put, Ne.symm hxy]
        have wsub : wr .i64 (Int.sub (put a x (a x + n) y) n) = put a x (a x + n) y - n := by rw [hpy, fold_sub, wr_in] <;> omega
        have n1 := nthO_c6 a hx6
        have n2 := nthO_c6 a hy6
        have n3 := nthO_c6 (put a x (a x + n)) hy6
        have p1 := fun s b => storeP_c6_1 s b a (a x + n) hx6
        have p2 := fun s b => storeP_c6_1 s b (put a x (a x + n)) (put a x (a x + n) y - n) hy6
        have happ := append_own (f := cP) (sz := 3) (fun _ => rfl) 24 p q (na N 1) (.cells (c6 (put (put a x (a x + n)) y (put a x (a x + n) y - n))) :: O) acc ⟨Int.ofNat x, Int.ofNat y, n⟩ [i64 (Int.ofNat x), i64 (Int.ofNat y), i64 n] rfl .full (by omega) (by omega)
        have hopen : openC (put (put a x (a x + n)) y (put a x (a x + n) y - n)) gs < openC a gs := by
          rcases hn with h | h
          · refine openC_lt (fun j _ hj => ?_) mx' (by omega) ?_
            · have h1 : j ≠ x := fun h => by subst h; omega
              have h2 : j ≠ y := fun h => by subst h; omega
              simp [put, h1, h2, hj]
            · simp [put, hxy]; omega
          · refine openC_lt (fun j _ hj => ?_) my' (by omega) ?_
            · have h1 : j ≠ x := fun h => by subst h; omega
              have h2 : j ≠ y := fun h => by subst h; omega
              simp [put, h1, h2, hj]
            · simp only [put, if_true, if_neg (Ne.symm hxy)]; omega
        have hsmall : Small (put (put a x (a x + n)) y (put a x (a x + n) y - n)) := fun j => by
          rw [hpy]
          unfold put
          by_cases h2 : j = y
          · subst h2; rw [if_pos rfl]; omega
          · rw [if_neg h2]
            by_cases h1 : j = x
            · subst h1; rw [if_pos rfl]; omega
            · rw [if_neg h1]; exact hs j
        obtain ⟨a', h'⟩ := ih _ (app acc [⟨Int.ofNat x, Int.ofNat y, n⟩]) (by omega) (by simp [app]; omega) hsmall
        refine ⟨a', ?_⟩
        simp only at c1 c2
        rw [app_assoc, lim_loop]
        generalize hR : some (_, _, _) = R at h' ⊢
        (try simp only [go_sem, ↓reduceIte, Nat.reduceAdd, Nat.reduceEqDiff, Nat.reduceLT, Nat.reduceLeDiff, Nat.reduceBEq, Int.reduceEq, Int.reduceLT, Int.reduceLE]); (repeat ((first | rw [c1] | rw [c2] | rw [lt_n hi0] | rw [lt_n hk0] | rw [hix] | rw [hiy] | rw [dx] | rw [dy] | rw [jx] | rw [jy] | rw [n1] | rw [n2] | rw [wneg] | rw [hnn] | rw [wadd] | rw [p1] | rw [n3] | rw [wsub] | rw [p2] | rw [happ] | (rw [lt_yes]; rotate_left; (first | omega | (simp [lenOf, app]; omega) | (simp only [lenOf]; omega))) | (rw [lt_no]; rotate_left; (first | omega | (simp [lenOf, app]; omega) | (simp only [lenOf]; omega))) | (rw [idxA_at]; rotate_left; (first | omega | (simp [lenOf, app]; omega) | (simp only [lenOf]; omega))) | (rw [wr_up]; rotate_left; (first | omega | (simp [lenOf, app]; omega) | (simp only [lenOf]; omega))) | ((first | rw [drop_cI] | rw [drop_cE] | rw [drop_cS] | rw [drop_cP] | rw [drop_cR]); rotate_left; assumption)); try simp only [go_sem, ↓reduceIte, Nat.reduceAdd, Nat.reduceEqDiff, Nat.reduceLT, Nat.reduceLeDiff, Nat.reduceBEq, Int.reduceEq, Int.reduceLT, Int.reduceLE]))
        exact h'
theorem k91 (a : Nat → Int) (m : Nat) (gs : List Nat) (hgs : ∀ j ∈ gs, j < 6) (hl : gs.length < 1000) (hs : Small a) (s : St) : lim tbl (.call 91 [.vref (c7 a m), sl cI (ints gs)]) s = some (.ret, [sl cP (settleF 1000 a gs)], s) := by
  obtain ⟨N, O, p, q⟩ := s
  have ho : openC a gs < 1000 := by have := openC_len a gs; omega
  obtain ⟨a', h0⟩ := l91 gs hgs hl N O p q 1000 a [] ho (by simp) hs
  rw [nil_app, ownSl_nil, show lenOf ([] : List Pay) = 0 from rfl, roomP_0, roomC_0] at h0
  rw [lim_call tbl_91]
  generalize settleF 1000 a gs = R at h0 ⊢
  (try simp only [go_sem, ↓reduceIte, Nat.reduceAdd, Nat.reduceEqDiff, Nat.reduceLT, Nat.reduceLeDiff, Nat.reduceBEq, Int.reduceEq, Int.reduceLT, Int.reduceLE]); (repeat ((first | rw [h0] | (rw [lt_yes]; rotate_left; (first | omega | (simp [lenOf, app]; omega) | (simp only [lenOf]; omega))) | (rw [lt_no]; rotate_left; (first | omega | (simp [lenOf, app]; omega) | (simp only [lenOf]; omega))) | (rw [idxA_at]; rotate_left; (first | omega | (simp [lenOf, app]; omega) | (simp only [lenOf]; omega))) | (rw [wr_up]; rotate_left; (first | omega | (simp [lenOf, app]; omega) | (simp only [lenOf]; omega))) | ((first | rw [drop_cI] | rw [drop_cE] | rw [drop_cS] | rw [drop_cP] | rw [drop_cR]); rotate_left; assumption)); try simp only [go_sem, ↓reduceIte, Nat.reduceAdd, Nat.reduceEqDiff, Nat.reduceLT, Nat.reduceLeDiff, Nat.reduceBEq, Int.reduceEq, Int.reduceLT, Int.reduceLE]))
end Go.Proofs.Ytlhfeiacigmliaa

/- The wash-house's soap: what the functions compute: Settle. -/
namespace Go.Proofs.Ytlhfeiacigmliaa
open Go
set_option maxRecDepth 10000

@[go_sem] theorem frz1_own_cP (n : Nat) (s : St) (sz p : Nat) (l : List Pay) : frz1 n s sz (ownSl cP p l) = some (sl cP l) := frz1_ownSl (fun _ => rfl) ..
theorem app_list {α : Type} {f : α → List AVal} {sz : Nat} (hf : ∀ a, (f a).length = sz) (bytes : Nat) (p : Nat) (q : Nat → Nat) (N : Nat) (O : List AObj) (l l' : List α) (h : (l.length + l'.length) * bytes ≤ 140737488355328) (h' : l.length + l'.length ≤ 140737488355328) :
    appendA sz bytes (ownSl f p l) (sl f l') ⟨N, O, roomP p (lenOf l), roomC p q (lenOf l)⟩ = some (ownSl f p (app l l'), ⟨N, O, roomP p (lenOf (app l l')), roomC p q (lenOf (app l l'))⟩) := by
  have he : elemsA ⟨N, O, roomP p (lenOf l), roomC p q (lenOf l)⟩ sz (sl f l') = some (l'.length, cellsOf f l') := by simp [elemsA, sl, lenOf, cells_length hf]
  unfold appendA
  rw [he]
  simp only [lenOf, app]
  cases l' with
  | nil =>
    rw [List.append_nil]
    simp only [List.length_nil, if_true]
    unfold ownSl
    by_cases hl : l.length = 0
    · simp [hl]
    · simp [hl]
  | cons b l' =>
    simp only [show (b :: l').length ≠ 0 by simp, if_false]
    cases l with
    | nil =>
      simp only [ownSl, roomP, roomC, lenOf, app, List.length_nil, if_true, List.nil_append, show (b :: l').length ≠ 0 by simp, if_false]
      simp only [List.length_nil, Nat.zero_add] at h h'
      rw [if_pos ⟨h, h'⟩]
      rfl
    | cons a l =>
      have hlen : (cellsOf f (a :: l)).length = (a :: l).length * sz := cells_length hf _
      simp only [ownSl, roomP, roomC, lenOf, app, show (a :: l).length ≠ 0 by simp, if_false, List.length_append, show (a :: l).length + (b :: l').length ≠ 0 by simp]
      rw [if_pos ⟨hlen, h, h'⟩]
      simp only [if_true]
      rw [if_pos ⟨trivial, by omega⟩]
      simp only [cells_append, Option.some.injEq, Prod.mk.injEq, true_and]
      simp only [St.grow, St.mk.injEq, true_and]
      funext x
      by_cases hx : x = p <;> simp [hx]
theorem Small.ow {es : List Ent} (w : Int) : ∀ {L : List Int} (n : Int) (B : Int), OkE es → areOz es L = true → -B ≤ n → n ≤ B → B + 80 * es.length ≤ 1000000 → -(B + 80 * es.length) ≤ owedUp n w es L ∧ owedUp n w es L ≤ B + 80 * es.length := by
  induction es with
  | nil =>
    intro L n B _ h h1 h2 h3
    cases L with
    | nil => simp only [owedUp, List.length_nil]; omega
    | cons x L => simp [areOz] at h
  | cons e es ih =>
    intro L n B ho h h1 h2 h3
    cases L with
    | nil => simp [areOz] at h
    | cons x L =>
      simp only [areOz, Bool.and_eq_true] at h
      obtain ⟨hx, h⟩ := h
      rw [within_iff] at hx
      have hoe := ho e (by simp)
      simp only [List.length_cons] at h3 ⊢
      rw [owedUp]
      have key : ∀ n', -(B + 80) ≤ n' → n' ≤ B + 80 → -(B + 80 * ((es.length + 1 : Nat) : Int)) ≤ owedUp n' w es L ∧ owedUp n' w es L ≤ B + 80 * ((es.length + 1 : Nat) : Int) := fun n' g1 g2 => by
        have := ih (L := L) n' (B + 80) (fun e he => ho e (by simp [he])) h g1 g2 (by omega)
        omega
      apply key
      · split <;> split
        · rw [wr_in (n := n + x) (by omega) (by omega), wr_in (by omega) (by omega)]; omega
        · rw [wr_in (n := n - x) (by omega) (by omega)]; omega
        · rw [wr_in (n := n + x) (by omega) (by omega)]; omega
        · omega
      · split <;> split
        · rw [wr_in (n := n + x) (by omega) (by omega), wr_in (by omega) (by omega)]; omega
        · rw [wr_in (n := n - x) (by omega) (by omega)]; omega
        · rw [wr_in (n := n + x) (by omega) (by omega)]; omega
        · omega
theorem small_ow {S : Slate} {L : List Int} (hG : Good S) (h : areOz S.es L = true) : Small (owV S.es L) := fun j => by
  have := Small.ow (es := S.es) (Int.ofNat j) (L := L) 0 0 hG.oe h (by omega) (by omega) (by have := hG.e6; omega)
  have h6 := hG.e6
  unfold owV; omega
/-- The numbers of a group. -/
def nats (l : List Int) : List Nat := l.map Int.toNat
def GrpOk (l : List Int) : Prop := l = ints (nats l) ∧ (∀ j ∈ nats l, j < 6) ∧ (nats l).length < 1000
theorem bits_ok {m : Nat} (h : m < 64) : GrpOk (bitsOf m) := by
  have hmem : ∀ x ∈ bitsOf m, ∃ j : Nat, j < 6 ∧ x = Int.ofNat j := by
    intro x hx
    unfold bitsOf upto at hx
    rw [List.mem_flatMap] at hx
    obtain ⟨j, _, hj⟩ := hx
    unfold bitF at hj
    split at hj
    · rename_i hb
      simp only [List.mem_singleton] at hj
      refine ⟨j, ?_, hj⟩
      rcases Nat.lt_or_ge j 6 with h1 | h1
      · exact h1
      · exfalso
        have : bshr m j = 0 := bshr_0 (Nat.lt_of_lt_of_le h (Nat.pow_le_pow_right (n := 2) (i := 6) (by omega) h1))
        rw [this] at hb; simp [bmod] at hb
    · simp at hj
  refine ⟨?_, ?_, ?_⟩
  · unfold ints nats
    rw [List.map_map]
    symm
    have : (bitsOf m).map (Int.ofNat ∘ Int.toNat) = (bitsOf m).map id := by
      apply List.map_congr_left
      intro x hx
      obtain ⟨j, _, rfl⟩ := hmem x hx
      rfl
    rw [this, List.map_id]
  · intro j hj
    unfold nats at hj
    rw [List.mem_map] at hj
    obtain ⟨x, hx, rfl⟩ := hj
    obtain ⟨j, h1, rfl⟩ := hmem x hx
    exact h1
  · unfold nats; rw [List.length_map]; have := bitsOf_len m; omega
theorem grp_ok (a : Nat → Int) : ∀ (f w g : Nat), w < 64 → g < 64 → ∀ l ∈ grp a f w g, GrpOk l
  | 0, _, _, _, _ => by simp [grp]
  | f + 1, w, g, hw, hg => by
    intro l hl
    rw [grp] at hl
    by_cases h0 : w = 0
    · rw [if_pos h0] at hl; simp at hl
    · rw [if_neg h0] at hl
      obtain ⟨x, hx, hx6, hlt⟩ := findI_ok a h0 hw
      rw [hx] at hl
      simp only at hl
      have hg' := bor_64 hg hx6
      split at hl
      · simp only [List.mem_cons] at hl
        rcases hl with hl | hl
        · subst hl; exact bits_ok hg'
        · exact grp_ok a f _ _ (by omega) (by omega) l hl
      · exact grp_ok a f _ _ (by omega) hg' l hl
theorem groups_ok (a : Nat → Int) : ∀ l ∈ groupsA a, GrpOk l := grp_ok a 64 _ _ (openN_lt a) (by omega)
theorem grp_len (a : Nat → Int) : ∀ (f w g : Nat), (grp a f w g).length ≤ f
  | 0, _, _ => by simp [grp]
  | f + 1, w, g => by
    rw [grp]
    split
    · simp
    · split
      · simp
      · split
        · simp only [List.length_cons]; exact Nat.succ_le_succ (grp_len a f _ 0)
        · exact Nat.le_succ_of_le (grp_len a f _ _)
theorem settleF_len : ∀ (f : Nat) (a : Nat → Int) (gs : List Nat), (settleF f a gs).length ≤ f
  | 0, _, _ => by simp [settleF]
  | f + 1, a, gs => by
    rw [settleF]
    split
    · simp only [List.length_cons]; exact Nat.succ_le_succ (settleF_len f _ gs)
    · simp
def settleG (a : Nat → Int) (g : List Int) : List Pay := settleF 1000 a (nats g)
def settleA (a : Nat → Int) : List Pay := (groupsA a).flatMap (settleG a)
theorem l53 (a : Nat → Int) (m : Nat) (hs : Small a) (G : List (List Int)) (hG : ∀ l ∈ G, GrpOk l) (hGl : G.length ≤ 64) (r : Nat) (N : Nat) (O : List AObj) (p : Nat) (q : Nat → Nat) : ∀ (k i : Nat) (acc : List Pay), i + k = G.length → acc.length ≤ i * 1000 →
    lim tbl (.loop a53_l0 37 ⟨[8, 9, 24, 25, 26], [8], []⟩ [ownSl cP p acc, .vref (c7 a m), ownSl cL r G, i64 (Int.ofNat (lenOf G)), i64 (Int.ofNat i)]) ⟨N, O, roomP p (lenOf acc), roomC p q (lenOf acc)⟩
      = some (.exit 0, [ownSl cP p (app acc ((G.drop i).flatMap (settleG a)))], ⟨N, O, roomP p (lenOf (app acc ((G.drop i).flatMap (settleG a)))), roomC p q (lenOf (app acc ((G.drop i).flatMap (settleG a))))⟩) := by
  intro k
  induction k with
  | zero =>
    intro i acc hi ha
    rw [List.drop_eq_nil_of_le (by omega), List.flatMap_nil, app_nil, lim_loop]
    (try simp only [go_sem, ↓reduceIte, Nat.reduceAdd, Nat.reduceEqDiff, Nat.reduceLT, Nat.reduceLeDiff, Nat.reduceBEq, Int.reduceEq, Int.reduceLT, Int.reduceLE]); (repeat ((first | (rw [lt_yes]; rotate_left; (first | omega | (simp [lenOf, app]; omega) | (simp only [lenOf]; omega))) | (rw [lt_no]; rotate_left; (first | omega | (simp [lenOf, app]; omega) | (simp only [lenOf]; omega))) | (rw [idxA_at]; rotate_left; (first | omega | (simp [lenOf, app]; omega) | (simp only [lenOf]; omega))) | (rw [wr_up]; rotate_left; (first | omega | (simp [lenOf, app]; omega) | (simp only [lenOf]; omega))) | ((first | rw [drop_cI] | rw [drop_cE] | rw [drop_cS] | rw [drop_cP] | rw [drop_cR]); rotate_left; assumption)); try simp only [go_sem, ↓reduceIte, Nat.reduceAdd, Nat.reduceEqDiff, Nat.reduceLT, Nat.reduceLeDiff, Nat.reduceBEq, Int.reduceEq, Int.reduceLT, Int.reduceLE]))
  | succ k ih =>
    intro i acc hi ha
    have hlt : i < G.length := by omega
    obtain ⟨g, hg, hd⟩ := getElem_drop hlt
    have hd' := drop_cL hg
    obtain ⟨h1, h2, h3⟩ := hG g (List.mem_of_getElem? hg)
    have h91 := fun s => k91 a m (nats g) h2 h3 hs s
    rw [← h1] at h91
    change ∀ s, _ = some (_, [sl cP (settleG a g)], s) at h91
    have hl := settleF_len 1000 a (nats g)
    change (settleG a g).length ≤ 1000 at hl
    have happ := app_list (f := cP) (sz := 3) (fun _ => rfl) 24 p q N O acc (settleG a g) (by omega) (by omega)
    have h' := ih (i + 1) (app acc (settleG a g)) (by omega) (by simp [app]; omega)
    rw [hd, List.flatMap_cons, app_app, lim_loop]
    generalize settleG a g = V at h91 happ h' ⊢
    generalize hR : some (_, _, _) = R at h' ⊢
    (try simp only [go_sem, ↓reduceIte, Nat.reduceAdd, Nat.reduceEqDiff, Nat.reduceLT, Nat.reduceLeDiff, Nat.reduceBEq, Int.reduceEq, Int.reduceLT, Int.reduceLE]); (repeat ((first | rw [hd'] | simp only [h91] | rw [happ] | (rw [lt_yes]; rotate_left; (first | omega | (simp [lenOf, app]; omega) | (simp only [lenOf]; omega))) | (rw [lt_no]; rotate_left; (first | omega | (simp [lenOf, app]; omega) | (simp only [lenOf]; omega))) | (rw [idxA_at]; rotate_left; (first | omega | (simp [lenOf, app]; omega) | (simp only [lenOf]; omega))) | (rw [wr_up]; rotate_left; (first | omega | (simp [lenOf, app]; omega) | (simp only [lenOf]; omega))) | ((first | rw [drop_cI] | rw [drop_cE] | rw [drop_cS] | rw [drop_cP] | rw [drop_cR]); rotate_left; assumption)); try simp only [go_sem, ↓reduceIte, Nat.reduceAdd, Nat.reduceEqDiff, Nat.reduceLT, Nat.reduceLeDiff, Nat.reduceBEq, Int.reduceEq, Int.reduceLT, Int.reduceLE]))
    exact h'
/-- What Settle returns. -/
def settleP (S : Slate) (L : List Int) : List Pay := if playErr S L = 0 then settleA (playOw S L) else []
theorem k53 (S : Slate) (L : List Int) (s : St) : lim tbl (.call 53 [vSl S, sl cI L]) s = some (.ret, [.tup [sl cP (settleP S L), i64 (playErr S L)]], s) := by
  have h79 := fun s => k79 S L good_of_check s
  rw [lim_call tbl_53]
  by_cases he : playErr S L = 0
  · have hb : settleP S L = settleA (playOw S L) := by simp [settleP, he]
    have hc := play_check he
    have hs : Small (playOw S L) := by
      unfold playErr at he
      rw [if_neg (by simp [hc])] at he
      split at he
      · rename_i ho
        rw [playOw, if_pos ⟨hc, ho⟩]; exact small_ow (good_of_check hc) ho
      · cases he
    rw [hb, he]
    rw [he] at h79
    generalize playOw S L = a at h79 hs ⊢
    obtain ⟨N, O, p, q⟩ := s
    have h80 := k80 a (na N 1) (.cells (c6 a) :: O) p q
    obtain ⟨M', Q', hE, h81⟩ := k81 a (na N 1) p q (na (na N 1) 1) (.map true [] :: .cells (c6 a) :: O) (fun x hx => by
      simp only [List.mem_singleton] at hx; subst hx
      exact ⟨[], gO_new .., fun y hy => by simp at hy⟩)
    have hgl := grp_len a 64 (openN a) 0
    change (groupsA a).length ≤ 64 at hgl
    have h0 := l53 a (na N 1) hs (groupsA a) (groups_ok a) hgl p M' Q' (roomP p (lenOf (groupsA a))) (roomC p q (lenOf (groupsA a))) (groupsA a).length 0 [] (by omega) (by simp)
    rw [List.drop_zero, nil_app, ownSl_nil, show lenOf ([] : List Pay) = 0 from rfl, roomP_0, roomC_0, ofNat_0] at h0
    change _ = some (_, [ownSl cP _ (settleA a)], (⟨_, _, roomP _ (lenOf (settleA a)), roomC _ _ (lenOf (settleA a))⟩ : St)) at h0
    have ho := hE.old N O (by simp [na]) (((OldO.refl N O).push _).push _)
    generalize settleA a = V at h0 ⊢
    generalize groupsA a = G at h81 h0
    have hold : Ytlhfeiacigmliaa.old ⟨N, O, p, q⟩ ⟨M', Q', roomP (roomP p (lenOf G)) (lenOf V), roomC (roomP p (lenOf G)) (roomC p q (lenOf G)) (lenOf V)⟩ = true := by
      simp only [Ytlhfeiacigmliaa.old, decide_eq_true_eq]
      exact ⟨ho.1, ho.2, fun x hx => roomC_old2 p q _ _ x hx⟩
    obtain ⟨w, es, ss⟩ := S
    (try simp only [go_sem, ↓reduceIte, Nat.reduceAdd, Nat.reduceEqDiff, Nat.reduceLT, Nat.reduceLeDiff, Nat.reduceBEq, Int.reduceEq, Int.reduceLT, Int.reduceLE]); (repeat ((first | simp only [h79] | rw [h80] | rw [h81] | rw [h0] | rw [hold] | (rw [lt_yes]; rotate_left; (first | omega | (simp [lenOf, app]; omega) | (simp only [lenOf]; omega))) | (rw [lt_no]; rotate_left; (first | omega | (simp [lenOf, app]; omega) | (simp only [lenOf]; omega))) | (rw [idxA_at]; rotate_left; (first | omega | (simp [lenOf, app]; omega) | (simp only [lenOf]; omega))) | (rw [wr_up]; rotate_left; (first | omega | (simp [lenOf, app]; omega) | (simp only [lenOf]; omega))) | ((first | rw [drop_cI] | rw [drop_cE] | rw [drop_cS] | rw [drop_cP] | rw [drop_cR]); rotate_left; assumption)); try simp only [go_sem, ↓reduceIte, Nat.reduceAdd, Nat.reduceEqDiff, Nat.reduceLT, Nat.reduceLeDiff, Nat.reduceBEq, Int.reduceEq, Int.reduceLT, Int.reduceLE]))
  · have hb : settleP S L = [] := by simp [settleP, he]
    rw [hb]
    generalize playErr S L = e at h79 he ⊢
    generalize playOw S L = A at h79 ⊢
    obtain ⟨w, es, ss⟩ := S
    obtain ⟨N, O, p, q⟩ := s
    (try simp only [go_sem, ↓reduceIte, Nat.reduceAdd, Nat.reduceEqDiff, Nat.reduceLT, Nat.reduceLeDiff, Nat.reduceBEq, Int.reduceEq, Int.reduceLT, Int.reduceLE]); (repeat ((first | simp only [h79] | rw [eq_n he] | (rw [lt_yes]; rotate_left; (first | omega | (simp [lenOf, app]; omega) | (simp only [lenOf]; omega))) | (rw [lt_no]; rotate_left; (first | omega | (simp [lenOf, app]; omega) | (simp only [lenOf]; omega))) | (rw [idxA_at]; rotate_left; (first | omega | (simp [lenOf, app]; omega) | (simp only [lenOf]; omega))) | (rw [wr_up]; rotate_left; (first | omega | (simp [lenOf, app]; omega) | (simp only [lenOf]; omega))) | ((first | rw [drop_cI] | rw [drop_cE] | rw [drop_cS] | rw [drop_cP] | rw [drop_cR]); rotate_left; assumption)); try simp only [go_sem, ↓reduceIte, Nat.reduceAdd, Nat.reduceEqDiff, Nat.reduceLT, Nat.reduceLeDiff, Nat.reduceBEq, Int.reduceEq, Int.reduceLT, Int.reduceLE]))
end Go.Proofs.Ytlhfeiacigmliaa

/- The wash-house's soap: what the functions compute: the document's first examples. -/
namespace Go.Proofs.Ytlhfeiacigmliaa
open Go
set_option maxRecDepth 10000

@[go_sem] theorem repl_12 (a : AVal) : List.replicate 12 a = [a, a, a, a, a, a, a, a, a, a, a, a] := (rfl)
/-- A function that forgets takes its arguments in their normal form. -/
theorem call_norm {T : Nat → Option AFun} {k : Nat} {F : AFun} (h : T k = some F) {sz : Nat} (hg : F.gc = some sz) {args args' : List AVal} (hn : norms args = norms args') (s : St) (hi : isIce (some sz) = false := by rfl) : lim T (.call k args) s = lim T (.call k args') s := by
  have hi' : isIce F.gc = false := by rw [hg]; exact hi
  rw [lim_call h hi', lim_call h hi', hg, frameV_some, frameV_some, hn]
def fourS (k : Nat) : Slate := ⟨4, [⟨0, 1, ⟨2, 3⟩⟩, ⟨1, 2, ⟨2, 2⟩⟩, ⟨3, 2, ⟨1, 4⟩⟩], ([⟨2, ⟨-4, -3⟩⟩, ⟨1, ⟨-1, -1⟩⟩, ⟨0, ⟨2, 2⟩⟩] : List Say).take k⟩
@[go_sem] theorem k72 (a b : Int) (s : St) : lim tbl (.call 72 [i64 a, i64 b]) s = some (.ret, [.agg [i64 a, i64 b]], s) := by
  rw [lim_call tbl_72]; obtain ⟨N, O, p, q⟩ := s
  (try simp only [go_sem, ↓reduceIte, Nat.reduceAdd, Nat.reduceEqDiff, Nat.reduceLT, Nat.reduceLeDiff, Nat.reduceBEq, Int.reduceEq, Int.reduceLT, Int.reduceLE]); (repeat ((first | (rw [lt_yes]; rotate_left; (first | omega | (simp [lenOf, app]; omega) | (simp only [lenOf]; omega))) | (rw [lt_no]; rotate_left; (first | omega | (simp [lenOf, app]; omega) | (simp only [lenOf]; omega))) | (rw [idxA_at]; rotate_left; (first | omega | (simp [lenOf, app]; omega) | (simp only [lenOf]; omega))) | (rw [wr_up]; rotate_left; (first | omega | (simp [lenOf, app]; omega) | (simp only [lenOf]; omega))) | ((first | rw [drop_cI] | rw [drop_cE] | rw [drop_cS] | rw [drop_cP] | rw [drop_cR]); rotate_left; assumption)); try simp only [go_sem, ↓reduceIte, Nat.reduceAdd, Nat.reduceEqDiff, Nat.reduceLT, Nat.reduceLeDiff, Nat.reduceBEq, Int.reduceEq, Int.reduceLT, Int.reduceLE]))
section
variable (a b d e f g h i j : AVal) (pm : Perm)
theorem hi9_0 : sliceHi 3 (.vsl [a, b, d, e, f, g, h, i, j] 3 pm) (i64 0) = some (.vsl [] 0 .no) := rfl
theorem hi9_1 : sliceHi 3 (.vsl [a, b, d, e, f, g, h, i, j] 3 pm) (i64 1) = some (.vsl [a, b, d] 1 .no) := rfl
theorem hi9_3 : sliceHi 3 (.vsl [a, b, d, e, f, g, h, i, j] 3 pm) (i64 3) = some (.vsl [a, b, d, e, f, g, h, i, j] 3 .no) := rfl
end
theorem k71_0 (s : St) : lim tbl (.call 71 [i64 0]) s = some (.ret, [vSl (fourS 0)], s) := by
  rw [lim_call tbl_71]; obtain ⟨N, O, p, q⟩ := s
  (try simp only [go_sem, ↓reduceIte, Nat.reduceAdd, Nat.reduceEqDiff, Nat.reduceLT, Nat.reduceLeDiff, Nat.reduceBEq, Int.reduceEq, Int.reduceLT, Int.reduceLE]); (repeat ((first | rw [hi9_0] | (rw [lt_yes]; rotate_left; (first | omega | (simp [lenOf, app]; omega) | (simp only [lenOf]; omega))) | (rw [lt_no]; rotate_left; (first | omega | (simp [lenOf, app]; omega) | (simp only [lenOf]; omega))) | (rw [idxA_at]; rotate_left; (first | omega | (simp [lenOf, app]; omega) | (simp only [lenOf]; omega))) | (rw [wr_up]; rotate_left; (first | omega | (simp [lenOf, app]; omega) | (simp only [lenOf]; omega))) | ((first | rw [drop_cI] | rw [drop_cE] | rw [drop_cS] | rw [drop_cP] | rw [drop_cR]); rotate_left; assumption)); try simp only [go_sem, ↓reduceIte, Nat.reduceAdd, Nat.reduceEqDiff, Nat.reduceLT, Nat.reduceLeDiff, Nat.reduceBEq, Int.reduceEq, Int.reduceLT, Int.reduceLE]))
  rfl
theorem k71_1 (s : St) : lim tbl (.call 71 [i64 1]) s = some (.ret, [vSl (fourS 1)], s) := by
  rw [lim_call tbl_71]; obtain ⟨N, O, p, q⟩ := s
  (try simp only [go_sem, ↓reduceIte, Nat.reduceAdd, Nat.reduceEqDiff, Nat.reduceLT, Nat.reduceLeDiff, Nat.reduceBEq, Int.reduceEq, Int.reduceLT, Int.reduceLE]); (repeat ((first | rw [hi9_1] | (rw [lt_yes]; rotate_left; (first | omega | (simp [lenOf, app]; omega) | (simp only [lenOf]; omega))) | (rw [lt_no]; rotate_left; (first | omega | (simp [lenOf, app]; omega) | (simp only [lenOf]; omega))) | (rw [idxA_at]; rotate_left; (first | omega | (simp [lenOf, app]; omega) | (simp only [lenOf]; omega))) | (rw [wr_up]; rotate_left; (first | omega | (simp [lenOf, app]; omega) | (simp only [lenOf]; omega))) | ((first | rw [drop_cI] | rw [drop_cE] | rw [drop_cS] | rw [drop_cP] | rw [drop_cR]); rotate_left; assumption)); try simp only [go_sem, ↓reduceIte, Nat.reduceAdd, Nat.reduceEqDiff, Nat.reduceLT, Nat.reduceLeDiff, Nat.reduceBEq, Int.reduceEq, Int.reduceLT, Int.reduceLE]))
  rfl
theorem k71_3 (s : St) : lim tbl (.call 71 [i64 3]) s = some (.ret, [vSl (fourS 3)], s) := by
  rw [lim_call tbl_71]; obtain ⟨N, O, p, q⟩ := s
  (try simp only [go_sem, ↓reduceIte, Nat.reduceAdd, Nat.reduceEqDiff, Nat.reduceLT, Nat.reduceLeDiff, Nat.reduceBEq, Int.reduceEq, Int.reduceLT, Int.reduceLE]); (repeat ((first | rw [hi9_3] | (rw [lt_yes]; rotate_left; (first | omega | (simp [lenOf, app]; omega) | (simp only [lenOf]; omega))) | (rw [lt_no]; rotate_left; (first | omega | (simp [lenOf, app]; omega) | (simp only [lenOf]; omega))) | (rw [idxA_at]; rotate_left; (first | omega | (simp [lenOf, app]; omega) | (simp only [lenOf]; omega))) | (rw [wr_up]; rotate_left; (first | omega | (simp [lenOf, app]; omega) | (simp only [lenOf]; omega))) | ((first | rw [drop_cI] | rw [drop_cE] | rw [drop_cS] | rw [drop_cP] | rw [drop_cR]); rotate_left; assumption)); try simp only [go_sem, ↓reduceIte, Nat.reduceAdd, Nat.reduceEqDiff, Nat.reduceLT, Nat.reduceLeDiff, Nat.reduceBEq, Int.reduceEq, Int.reduceLT, Int.reduceLE]))
  rfl
theorem x52 (s : St) : lim tbl (.call 52 [vSl (fourS 0), .vsl [i64 3, i64 2, i64 1] 3 .full]) s = some (.ret, [.tup [sl cI [3, -1, -3, 1], i64 0]], s) := by
  have h1 : playL (fourS 0) [3, 2, 1] = [3, -1, -3, 1] := by kernel_rfl
  have h2 : playErr (fourS 0) [3, 2, 1] = 0 := by kernel_rfl
  have h := k52 (fourS 0) [3, 2, 1] good_of_check s
  rw [h1, h2] at h
  rw [← h]
  exact call_norm tbl_52 rfl (by kernel_rfl) s
theorem x23 (s : St) : lim tbl (.call 23 [vSl (fourS 1)]) s = some (.ret, [.tup [.vsl [i64 2, i64 3, i64 (-1), i64 0, i64 (-4), i64 (-3), i64 1, i64 2] 4 .no, i64 0]], s) := by
  have h1 : boundsL (fourS 1) = [⟨2, 3⟩, ⟨-1, 0⟩, ⟨-4, -3⟩, ⟨1, 2⟩] := by kernel_rfl
  have h2 : askedErr (fourS 1) = 0 := by kernel_rfl
  have h := k23 (fourS 1) s
  rw [h1, h2] at h
  exact h
theorem x25 (s : St) : lim tbl (.call 25 [vSl (fourS 0)]) s = some (.ret, [.tup [sl cI [2, 3, 1, 2], i64 0]], s) := by
  have h1 : (boundsL (fourS 0)).map owesF = [2, 3, 1, 2] := by kernel_rfl
  have h2 : askedErr (fourS 0) = 0 := by kernel_rfl
  have h := k25 (fourS 0) s
  rw [h1, h2] at h
  exact h
theorem x53 (s : St) : lim tbl (.call 53 [vSl (fourS 0), .vsl [i64 2, i64 2, i64 4] 3 .full]) s = some (.ret, [.tup [sl cP [⟨2, 0, 2⟩, ⟨2, 3, 4⟩], i64 0]], s) := by
  have h1 : settleP (fourS 0) [2, 2, 4] = [⟨2, 0, 2⟩, ⟨2, 3, 4⟩] := by kernel_rfl
  have h2 : playErr (fourS 0) [2, 2, 4] = 0 := by kernel_rfl
  have h := k53 (fourS 0) [2, 2, 4] s
  rw [h1, h2] at h
  rw [← h]
  exact call_norm tbl_53 rfl (by kernel_rfl) s
theorem x30 (s : St) : lim tbl (.call 30 [vSl (fourS 0), .vsl [i64 3, i64 2, i64 1] 3 .full]) s = some (.ret, [.tup [sl cL [[0, 2], [1, 3]], i64 0]], s) := by
  have h1 : groupsP (fourS 0) [3, 2, 1] = [[0, 2], [1, 3]] := by kernel_rfl
  have h2 : playErr (fourS 0) [3, 2, 1] = 0 := by kernel_rfl
  have h := k30 (fourS 0) [3, 2, 1] s
  rw [h1, h2] at h
  rw [← h]
  exact call_norm tbl_30 rfl (by kernel_rfl) s
theorem x38 (s : St) : lim tbl (.call 38 [vSl (fourS 0)]) s = some (.ret, [.tup [.agg [i64 2, i64 3], i64 0]], s) := by
  have h1 : fewestP (fourS 0) = (2, 3) := by kernel_rfl
  have h2 : askedErr (fourS 0) = 0 := by kernel_rfl
  have h := k38 (fourS 0) s
  rw [h1, h2] at h
  exact h
theorem x40 (s : St) : lim tbl (.call 40 [vSl (fourS 3)]) s = some (.ret, [.tup [i64 2, i64 0]], s) := by
  have h1 : firstA (fourS 3) = 2 := by kernel_rfl
  have h2 : firstE (fourS 3) = 0 := by kernel_rfl
  have h := k40 (fourS 3) s
  rw [h1, h2] at h
  exact h
theorem x41 (s : St) : lim tbl (.call 41 [vSl (fourS 3)]) s = some (.ret, [.tup [sl cI [1], i64 0]], s) := by
  have h1 : leaveL (fourS 3) = [1] := by kernel_rfl
  have h2 : checkSlate (fourS 3) = 0 := by kernel_rfl
  have h := k41 (fourS 3) s
  rw [h1, h2] at h
  exact h
theorem x43 (a : List Int) (cs : List AVal) (n : Nat) (h : sl cI a = .vsl cs n .no) (hn : norms cs = cs) (hl : a.length < 1000) (s : St) : lim tbl (.call 43 [sl cI a, .vsl cs n .full]) s = some (.ret, [.bool true], s) := by
  have h1 := k43 a a (by omega) s
  have h2 : sameL a a = true := by simp [sameL]
  rw [h2] at h1
  rw [← h1]
  refine call_norm tbl_43 rfl ?_ s
  rw [h]; simp [norms, AVal.norm, hn]
/-- The document's first examples are returned. -/
theorem k22 (s : St) : lim tbl (.call 22 []) s = some (.ret, [.bool true], s) := by
  have a1 := fun s => x43 [3, -1, -3, 1] [i64 3, i64 (-1), i64 (-3), i64 1] 4 rfl rfl (by simp) s
  have a2 := fun s => x43 [2, 3, 1, 2] [i64 2, i64 3, i64 1, i64 2] 4 rfl rfl (by simp) s
  have a3 := fun s => x43 [1] [i64 1] 1 rfl rfl (by simp) s
  have l2 : lenOf ([⟨2, 0, 2⟩, ⟨2, 3, 4⟩] : List Pay) = 2 := rfl
  have l3 : lenOf ([[0, 2], [1, 3]] : List (List Int)) = 2 := rfl
  rw [lim_call tbl_22]; obtain ⟨N, O, p, q⟩ := s
  (try simp only [go_sem, ↓reduceIte, Nat.reduceAdd, Nat.reduceEqDiff, Nat.reduceLT, Nat.reduceLeDiff, Nat.reduceBEq, Int.reduceEq, Int.reduceLT, Int.reduceLE]); (repeat ((first | simp only [k71_0, k71_1, k71_3] | simp only [x52, x23, x25, x53, x30, x38, x40, x41] | simp only [a1, a2, a3] | rw [l2] | rw [l3] | (rw [lt_yes]; rotate_left; (first | omega | (simp [lenOf, app]; omega) | (simp only [lenOf]; omega))) | (rw [lt_no]; rotate_left; (first | omega | (simp [lenOf, app]; omega) | (simp only [lenOf]; omega))) | (rw [idxA_at]; rotate_left; (first | omega | (simp [lenOf, app]; omega) | (simp only [lenOf]; omega))) | (rw [wr_up]; rotate_left; (first | omega | (simp [lenOf, app]; omega) | (simp only [lenOf]; omega))) | ((first | rw [drop_cI] | rw [drop_cE] | rw [drop_cS] | rw [drop_cP] | rw [drop_cR]); rotate_left; assumption)); try simp only [go_sem, ↓reduceIte, Nat.reduceAdd, Nat.reduceEqDiff, Nat.reduceLT, Nat.reduceLeDiff, Nat.reduceBEq, Int.reduceEq, Int.reduceLT, Int.reduceLE]))
end Go.Proofs.Ytlhfeiacigmliaa

/- The wash-house's soap, plain law: all ounces are gone through by the program as by the document; which sayings are right together. -/
namespace Go.Proofs.Ytlhfeiacigmliaa
open Go
set_option maxRecDepth 10000

theorem mem_rngUp {x : Int} : ∀ {m : Nat} {v : Int}, x ∈ rngUp v m ↔ v ≤ x ∧ x < v + m
  | 0, v => by simp [rngUp]
  | m + 1, v => by
    rw [rngUp, List.mem_cons, mem_rngUp]
    push_cast
    omega
theorem mem_ozs : ∀ {es : List Ent} {L : List Int}, OkE es → (L ∈ ozs es ↔ areOz es L = true)
  | [], L, _ => by
    cases L with
    | nil => simp [ozs, areOz]
    | cons a L => simp [ozs, areOz]
  | e :: es, L, h => by
    have ih := fun L => mem_ozs (es := es) (L := L) fun e he => h e (by simp [he])
    have he := h e (by simp)
    rw [ozs, List.mem_flatMap]
    constructor
    · rintro ⟨v, hv, hL⟩
      rw [List.mem_map] at hL
      obtain ⟨L', h1, rfl⟩ := hL
      rw [mem_rngUp] at hv
      simp only [areOz, Bool.and_eq_true, within_iff]
      refine ⟨?_, (ih L').1 h1⟩
      unfold szN at hv; omega
    · intro hL
      cases L with
      | nil => simp [areOz] at hL
      | cons v L =>
        simp only [areOz, Bool.and_eq_true, within_iff] at hL
        refine ⟨v, ?_, List.mem_map.2 ⟨L, (ih L).2 hL.2, rfl⟩⟩
        rw [mem_rngUp]; unfold szN; omega
theorem nth_areOz : ∀ {es : List Ent} (_ : OkE es) (n : Nat), areOz es (nthRef es n) = true
  | [], _, n => rfl
  | e :: es, h, n => by
    have he := h e (by simp)
    have hp := szN_pos he.2.1
    rw [nthRef]
    simp only [areOz, Bool.and_eq_true, within_iff]
    refine ⟨?_, nth_areOz (fun e he => h e (by simp [he])) _⟩
    have hm : n % szN e.oz.lo e.oz.hi < szN e.oz.lo e.oz.hi := Nat.mod_lt _ (Nat.pos_of_ne_zero hp)
    unfold bmod
    simp only [Int.ofNat_eq_natCast]
    have : ((szN e.oz.lo e.oz.hi : Nat) : Int) = e.oz.hi - e.oz.lo + 1 := by unfold szN; omega
    omega
theorem areOz_nth : ∀ {es : List Ent} (_ : OkE es) {L : List Int}, areOz es L = true → ∃ n, n < prodN es ∧ nthRef es n = L
  | [], _, L, h => by
    cases L with
    | nil => exact ⟨0, by simp [prodN], rfl⟩
    | cons a L => simp [areOz] at h
  | e :: es, ho, L, h => by
    cases L with
    | nil => simp [areOz] at h
    | cons v L =>
      simp only [areOz, Bool.and_eq_true, within_iff] at h
      have he := ho e (by simp)
      have hp := szN_pos he.2.1
      obtain ⟨n, hn, hL⟩ := areOz_nth (fun e he => ho e (by simp [he])) h.2
      have hsz : ((szN e.oz.lo e.oz.hi : Nat) : Int) = e.oz.hi - e.oz.lo + 1 := by unfold szN; omega
      obtain ⟨k, hk⟩ : ∃ k : Nat, v = e.oz.lo + (k : Int) := ⟨(v - e.oz.lo).toNat, by omega⟩
      have hkl : k < szN e.oz.lo e.oz.hi := by omega
      generalize hz : szN e.oz.lo e.oz.hi = z at *
      refine ⟨k + z * n, ?_, ?_⟩
      · rw [prodN, hz]
        have : z * n + z ≤ z * prodN es := by
          have := Nat.mul_le_mul_left z (show n + 1 ≤ prodN es by omega)
          rwa [Nat.mul_add, Nat.mul_one] at this
        omega
      · rw [nthRef, hz]
        have h1 : bmod (k + z * n) z = k := by unfold bmod; rw [Nat.add_mul_mod_self_left, Nat.mod_eq_of_lt hkl]
        have h2 : (k + z * n) / z = n := by rw [Nat.add_mul_div_left _ _ (by omega), Nat.div_eq_of_lt hkl]; omega
        rw [h1, h2, hL, hk]; rfl

theorem bor_test (a i j : Nat) : (bor a (pw i)).testBit j = (a.testBit j || decide (i = j)) := by
  unfold bor pw; rw [Nat.testBit_or, Nat.testBit_two_pow]
theorem orUp_test (P : Say → Bool) : ∀ (l : List Say) (n i j : Nat), (orUp P n i l).testBit j = (n.testBit j || (decide (i ≤ j) && (match l[j - i]? with | some x => P x | none => false)))
  | [], n, i, j => by simp [orUp]
  | x :: l, n, i, j => by
    rw [orUp, orUp_test P l]
    by_cases hij : i = j
    · subst hij
      have h1 : ¬ i + 1 ≤ i := by omega
      simp only [h1, decide_false, Bool.false_and, Bool.or_false, Nat.le_refl, decide_true, Bool.true_and, Nat.sub_self, List.getElem?_cons_zero]
      cases hx : P x with
      | true => simp [bor_test]
      | false => simp
    · have h0 : (if P x then bor n (pw i) else n).testBit j = n.testBit j := by
        cases P x with
        | true => simp [bor_test, hij]
        | false => rfl
      rw [h0]
      by_cases hlt : i < j
      · have h1 : j - i = (j - (i + 1)) + 1 := by omega
        have h2 : i + 1 ≤ j := hlt
        have h3 : i ≤ j := by omega
        rw [h1]; simp [h2, h3]
      · have h2 : ¬ i + 1 ≤ j := by omega
        have h3 : ¬ i ≤ j := by omega
        simp [h2, h3]
/-- A saying is right by its bit. -/
theorem rightN_test (S : Slate) (L : List Int) (j : Nat) : (rightN S L).testBit j = (match S.ss[j]? with | some x => rightOk S.es L x | none => false) := by
  unfold rightN
  rw [orUp_test]; simp
theorem band_iff (a m : Nat) : band a m = m ↔ ∀ i, m.testBit i = true → a.testBit i = true := by
  unfold band
  constructor
  · intro h i hi
    have := congrArg (fun x => x.testBit i) h
    simp only [Nat.testBit_and, hi, Bool.and_true] at this
    exact this
  · intro h
    apply Nat.eq_of_testBit_eq
    intro i
    rw [Nat.testBit_and]
    cases hm : m.testBit i with
    | false => simp
    | true => simp [h i hm]
theorem hasI_iff (L : List Int) (i : Nat) : hasI L (Int.ofNat i) = true ↔ Int.ofNat i ∈ L := by
  simp [hasI]
theorem rightUp_iff (a : Nat → Int) (out : List Int) : ∀ (l : List Say) (i : Nat), rightUp a out i l = true ↔ ∀ j x, l[j]? = some x → (Int.ofNat (i + j) ∈ out ∨ within (a x.w.toNat) x.ow.lo x.ow.hi = true)
  | [], i => by simp [rightUp]
  | x :: l, i => by
    rw [rightUp]
    simp only [Bool.and_eq_true, Bool.or_eq_true, hasI_iff]
    rw [rightUp_iff a out l (i + 1)]
    constructor
    · rintro ⟨h1, h2⟩ j y hy
      cases j with
      | zero => simp only [List.getElem?_cons_zero, Option.some.injEq] at hy; subst hy; exact h1
      | succ j =>
        have := h2 j y (by simpa using hy)
        rwa [show i + (j + 1) = i + 1 + j by omega]
    · intro h
      refine ⟨h 0 x rfl, fun j y hy => ?_⟩
      have := h (j + 1) y (by simpa using hy)
      rwa [show i + (j + 1) = i + 1 + j by omega] at this
/-- The numbers of all ounces' right sayings. -/
def allN (S : Slate) : List Nat := (List.range' 0 (prodN S.es)).map fun n => rightN S (nthRef S.es n)
theorem allRef_eq (S : Slate) : allRef S (prodN S.es) = ints (allN S) := by
  unfold allRef upto allN ints
  rw [List.map_map]
  induction List.range' 0 (prodN S.es) with
  | nil => rfl
  | cons n l ih => rw [List.flatMap_cons, ih]; rfl
theorem can_iff {S : Slate} (hG : Good S) (m : Nat) : can (allN S) m = true ↔ ∃ L, areOz S.es L = true ∧ ∀ i, m.testBit i = true → (rightN S L).testBit i = true := by
  unfold can anyB allN
  rw [List.any_eq_true]
  constructor
  · rintro ⟨a, ha, hb⟩
    rw [List.mem_map] at ha
    obtain ⟨n, _, rfl⟩ := ha
    exact ⟨_, nth_areOz hG.oe n, (band_iff _ _).1 (of_decide_eq_true hb)⟩
  · rintro ⟨L, hL, hb⟩
    obtain ⟨n, hn, rfl⟩ := areOz_nth hG.oe hL
    exact ⟨_, List.mem_map.2 ⟨n, by rw [List.mem_range'_1]; omega, rfl⟩, decide_eq_true ((band_iff _ _).2 hb)⟩
theorem possible_iff {S : Slate} (hG : Good S) (out : List Int) : possibleB S out = true ↔ ∃ L, areOz S.es L = true ∧ ∀ i x, S.ss[i]? = some x → Int.ofNat i ∈ out ∨ rightOk S.es L x = true := by
  unfold possibleB
  rw [List.any_eq_true]
  have key : ∀ (L : List Int) (i : Nat) (x : Say), S.ss[i]? = some x → within (owV S.es L x.w.toNat) x.ow.lo x.ow.hi = rightOk S.es L x := by
    intro L i x hx
    obtain ⟨u, _, hu⟩ := hG.os x (List.mem_of_getElem? hx)
    unfold owV rightOk
    rw [hu]; rfl
  constructor
  · rintro ⟨L, h1, h2⟩
    refine ⟨L, (mem_ozs hG.oe).1 h1, fun i x hx => ?_⟩
    have := (rightUp_iff _ _ _ _).1 h2 i x hx
    rwa [Nat.zero_add, key L i x hx] at this
  · rintro ⟨L, h1, h2⟩
    refine ⟨L, (mem_ozs hG.oe).2 h1, (rightUp_iff _ _ _ _).2 fun i x hx => ?_⟩
    rw [Nat.zero_add, key L i x hx]; exact h2 i x hx
/-- Sayings are possible by the program as by the document. -/
theorem possible_can {S : Slate} (hG : Good S) (out : List Int) (m : Nat) (hm : ∀ i, m.testBit i = true ↔ i < S.ss.length ∧ Int.ofNat i ∉ out) : possibleB S out = can (allN S) m := by
  rw [Bool.eq_iff_iff, possible_iff hG, can_iff hG]
  constructor
  · rintro ⟨L, h1, h2⟩
    refine ⟨L, h1, fun i hi => ?_⟩
    obtain ⟨hl, hn⟩ := (hm i).1 hi
    rw [rightN_test, List.getElem?_eq_getElem hl]
    rcases h2 i _ (List.getElem?_eq_getElem hl) with h | h
    · exact absurd h hn
    · exact h
  · rintro ⟨L, h1, h2⟩
    refine ⟨L, h1, fun i x hx => ?_⟩
    by_cases hin : Int.ofNat i ∈ out
    · exact Or.inl hin
    · right
      have hl : i < S.ss.length := by
        rcases Nat.lt_or_ge i S.ss.length with h | h
        · exact h
        · rw [List.getElem?_eq_none h] at hx; cases hx
      have := h2 i ((hm i).2 ⟨hl, hin⟩)
      rwa [rightN_test, hx] at this
end Go.Proofs.Ytlhfeiacigmliaa

/- The wash-house's soap, plain law: the first wrong saying, and the smallest set, are as the document says. -/
namespace Go.Proofs.Ytlhfeiacigmliaa
open Go
set_option maxRecDepth 10000

theorem fullN_test (n i : Nat) : (fullN n).testBit i = decide (i < n) := by
  unfold fullN pw; rw [Nat.testBit_two_pow_sub_one]
theorem maskN_test (n i : Nat) : (maskN n).testBit i = decide (i < n + 1) := by
  have : maskN n = 2 ^ (n + 1) - 1 := by unfold maskN pw; rw [Nat.pow_succ]; omega
  rw [this, Nat.testBit_two_pow_sub_one]
theorem bsub_test (a b i : Nat) : (bsub a b).testBit i = (a.testBit i && !b.testBit i) := by
  unfold bsub; rw [Nat.testBit_and, Nat.testBit_xor]
  cases a.testBit i <;> cases b.testBit i <;> rfl
/-- The sayings up to one. -/
theorem first_can {S : Slate} (hG : Good S) {i : Nat} (hi : i < S.ss.length) : possibleB ⟨S.women, S.es, S.ss.take (i + 1)⟩ [] = can (allN S) (maskN i) := by
  have hGt : Good ⟨S.women, S.es, S.ss.take (i + 1)⟩ := Good.take (w := S.women) (es := S.es) (ss := S.ss) hG (i + 1)
  rw [Bool.eq_iff_iff, possible_iff hGt, can_iff hG]
  constructor
  · rintro ⟨L, h1, h2⟩
    refine ⟨L, h1, fun j hj => ?_⟩
    rw [maskN_test, decide_eq_true_eq] at hj
    have hl : j < S.ss.length := by omega
    have hx : (S.ss.take (i + 1))[j]? = some S.ss[j] := by rw [List.getElem?_take_of_lt hj, List.getElem?_eq_getElem hl]
    rcases h2 j _ hx with h | h
    · simp at h
    · rw [rightN_test, List.getElem?_eq_getElem hl]; exact h
  · rintro ⟨L, h1, h2⟩
    refine ⟨L, h1, fun j x hx => Or.inr ?_⟩
    have hj : j < i + 1 := by
      rcases Nat.lt_or_ge j (i + 1) with h | h
      · exact h
      · rw [List.getElem?_eq_none (by simp; omega)] at hx; cases hx
    simp only at hx
    rw [List.getElem?_take_of_lt hj] at hx
    have := h2 j (by rw [maskN_test]; simpa using hj)
    rwa [rightN_test, hx] at this
theorem first_eq {S : Slate} (hG : Good S) : ∀ (k i : Nat), i + k = S.ss.length → firstUp (allN S) k i = (match firstPUp S k i with | none => -1 | some j => Int.ofNat j)
  | 0, i, _ => rfl
  | k + 1, i, h => by
    rw [firstUp, firstPUp, first_can hG (by omega)]
    cases can (allN S) (maskN i) with
    | true => simp only [if_true]; exact first_eq hG k (i + 1) (by omega)
    | false => rfl

theorem beforeL_trans : ∀ {a b c : List Int}, beforeL a b = true → beforeL b c = true → beforeL a c = true
  | [], [], _, h, _ => by simp [beforeL] at h
  | [], _ :: _, [], _, h => by simp [beforeL] at h
  | [], _ :: _, _ :: _, _, _ => rfl
  | _ :: _, [], _, h, _ => by simp [beforeL] at h
  | _ :: _, _ :: _, [], _, h => by simp [beforeL] at h
  | x :: a, y :: b, z :: c, h, h' => by
    simp only [beforeL] at h h' ⊢
    by_cases h1 : x = y
    · subst h1
      rw [if_pos rfl] at h
      by_cases h2 : x = z
      · subst h2
        rw [if_pos rfl] at h' ⊢
        exact beforeL_trans h h'
      · rw [if_neg h2] at h' ⊢; exact h'
    · rw [if_neg h1, decide_eq_true_eq] at h
      by_cases h2 : y = z
      · subst h2; rw [if_neg h1, decide_eq_true_eq]; exact h
      · rw [if_neg h2, decide_eq_true_eq] at h'
        rw [if_neg (by omega), decide_eq_true_eq]; omega
theorem beforeL_irrefl : ∀ a : List Int, beforeL a a = false
  | [] => rfl
  | x :: a => by rw [beforeL, if_pos rfl]; exact beforeL_irrefl a
theorem shorterL_iff {a b : List Int} : shorterL a b = true ↔ a.length < b.length ∨ a.length = b.length ∧ beforeL a b = true := by
  unfold shorterL
  rw [Bool.or_eq_true, Bool.and_eq_true, decide_eq_true_iff, decide_eq_true_iff]
  exact Iff.rfl
theorem shorterL_trans {a b c : List Int} (h : shorterL a b = true) (h' : shorterL b c = true) : shorterL a c = true := by
  rw [shorterL_iff] at *
  rcases h with h | ⟨h, g⟩ <;> rcases h' with h' | ⟨h', g'⟩
  · left; omega
  · left; omega
  · left; omega
  · right; exact ⟨by omega, beforeL_trans g g'⟩
theorem shorterL_irrefl (a : List Int) : shorterL a a = false := by
  cases h : shorterL a a with
  | false => rfl
  | true =>
    rw [shorterL_iff] at h
    rcases h with h | ⟨_, h⟩
    · omega
    · rw [beforeL_irrefl] at h; cases h

theorem leave_min (ns : List Nat) (F : Nat) : ∀ (k b : Nat) (best : List Int),
    (leaveUp ns F k b best = best ∨ ∃ b', b ≤ b' ∧ b' < b + k ∧ leaveUp ns F k b best = bitsOf b' ∧ can ns (bsub F b') = true) ∧
    (leaveUp ns F k b best = best ∨ shorterL (leaveUp ns F k b best) best = true) ∧
    ∀ b', b ≤ b' → b' < b + k → can ns (bsub F b') = true → shorterL (bitsOf b') (leaveUp ns F k b best) = false
  | 0, b, best => by
    refine ⟨Or.inl rfl, Or.inl rfl, fun b' h1 h2 => by omega⟩
  | k + 1, b, best => by
    rw [leaveUp]
    cases hs : shorterL (bitsOf b) best && can ns (bsub F b) with
    | true =>
      simp only [if_true]
      simp only [Bool.and_eq_true] at hs
      obtain ⟨i1, i2, i3⟩ := leave_min ns F k (b + 1) (bitsOf b)
      refine ⟨?_, ?_, fun b' h1 h2 h3 => ?_⟩
      · right
        rcases i1 with h | ⟨b', h1, h2, h3, h4⟩
        · exact ⟨b, by omega, by omega, h, hs.2⟩
        · exact ⟨b', by omega, by omega, h3, h4⟩
      · right
        rcases i2 with h | h
        · rw [h]; exact hs.1
        · exact shorterL_trans h hs.1
      · by_cases he : b' = b
        · subst he
          rcases i2 with h | h
          · rw [h]; exact shorterL_irrefl _
          · cases hx : shorterL (bitsOf b') (leaveUp ns F k (b' + 1) (bitsOf b')) with
            | false => rfl
            | true => have := shorterL_trans hx h; rw [shorterL_irrefl] at this; cases this
        · exact i3 b' (by omega) (by omega) h3
    | false =>
      simp only [Bool.false_eq_true, if_false]
      obtain ⟨i1, i2, i3⟩ := leave_min ns F k (b + 1) best
      refine ⟨?_, i2, fun b' h1 h2 h3 => ?_⟩
      · rcases i1 with h | ⟨b', h1, h2, h3, h4⟩
        · exact Or.inl h
        · exact Or.inr ⟨b', by omega, by omega, h3, h4⟩
      · by_cases he : b' = b
        · subst he
          rw [h3, Bool.and_true] at hs
          rcases i2 with h | h
          · rw [h]; exact hs
          · cases hx : shorterL (bitsOf b') (leaveUp ns F k (b' + 1) best) with
            | false => rfl
            | true => have := shorterL_trans hx h; rw [this] at hs; cases hs
        · exact i3 b' (by omega) (by omega) h3

def allSets (n : Nat) : List (List Int) := (List.range' 0 (n + 1)).flatMap fun j => combs n j 0
def pairB (l : List (List Int)) : Bool := match l with
  | [] => true
  | a :: l => (l.all fun b => shorterL a b) && pairB l
theorem sets_mem : ∀ n, n ≤ 5 → ∀ b, b < pw n → bitsOf b ∈ allSets n := by
  have h : ((List.range 6).all fun n => (List.range (pw n)).all fun b => (allSets n).contains (bitsOf b)) = true := by kernel_rfl
  intro n hn b hb
  rw [List.all_eq_true] at h
  have h1 := h n (by simp; omega)
  rw [List.all_eq_true] at h1
  have h2 := h1 b (by simpa using hb)
  simpa using h2
theorem sets_bits : ∀ n, n ≤ 5 → ∀ l ∈ allSets n, ∃ b, b < pw n ∧ l = bitsOf b := by
  have h : ((List.range 6).all fun n => (allSets n).all fun l => (List.range (pw n)).any fun b => l == bitsOf b) = true := by kernel_rfl
  intro n hn l hl
  rw [List.all_eq_true] at h
  have h1 := h n (by simp; omega)
  rw [List.all_eq_true] at h1
  have h2 := h1 l hl
  rw [List.any_eq_true] at h2
  obtain ⟨b, hb, he⟩ := h2
  exact ⟨b, by simpa using hb, by simpa using he⟩
theorem sets_pair : ∀ n, n ≤ 5 → pairB (allSets n) = true := by
  have h : ((List.range 6).all fun n => pairB (allSets n)) = true := by kernel_rfl
  intro n hn
  rw [List.all_eq_true] at h
  exact h n (by simp; omega)
theorem pairB_split : ∀ {pre : List (List Int)} {x : List Int} {post : List (List Int)}, pairB (pre ++ x :: post) = true → ∀ y ∈ post, shorterL x y = true
  | [], x, post, h, y, hy => by
    simp only [List.nil_append, pairB, Bool.and_eq_true, List.all_eq_true] at h
    exact h.1 y hy
  | a :: pre, x, post, h, y, hy => by
    simp only [List.cons_append, pairB, Bool.and_eq_true] at h
    exact pairB_split h.2 y hy
theorem tried_split (S : Slate) : ∀ (l : List (List Int)) (x : List Int), (∃ a ∈ l, possibleB S a = true) → ∃ pre a post, l = pre ++ a :: post ∧ possibleB S a = true ∧ (∀ y ∈ pre, possibleB S y = false) ∧ (tried S l x).1 = a
  | [], _, h => by obtain ⟨a, ha, _⟩ := h; simp at ha
  | b :: l, x, h => by
    unfold tried
    rw [iterL]
    cases hb : possibleB S b with
    | true => exact ⟨[], b, l, rfl, hb, by simp, by simp⟩
    | false =>
      obtain ⟨a, ha, hp⟩ := h
      simp only [List.mem_cons] at ha
      have ha' : a ∈ l := by
        rcases ha with ha | ha
        · subst ha; rw [hb] at hp; cases hp
        · exact ha
      obtain ⟨pre, c, post, e1, e2, e3, e4⟩ := tried_split S l b ⟨a, ha', hp⟩
      refine ⟨b :: pre, c, post, by rw [e1]; rfl, e2, fun y hy => ?_, ?_⟩
      · simp only [List.mem_cons] at hy
        rcases hy with hy | hy
        · rw [hy]; exact hb
        · exact e3 y hy
      · simpa [tried] using e4
theorem mem_bitsOf {b i : Nat} (hi : i < 60) : Int.ofNat i ∈ bitsOf b ↔ b.testBit i = true := by
  unfold bitsOf upto
  rw [List.mem_flatMap]
  have hb : ∀ j, (bmod (bshr b j) 2 = 1) = (b.testBit j = true) := fun j => by
    rw [Nat.testBit_eq_decide_div_mod_eq, decide_eq_true_eq]
    unfold bmod bshr; rw [Nat.shiftRight_eq_div_pow]
  constructor
  · rintro ⟨j, _, hj⟩
    unfold bitF at hj
    split at hj
    · rename_i ht
      rw [hb] at ht
      simp only [List.mem_singleton] at hj
      have : i = j := Int.ofNat.inj hj
      subst this; exact ht
    · simp at hj
  · intro ht
    refine ⟨i, by rw [List.mem_range'_1]; omega, ?_⟩
    unfold bitF
    rw [if_pos (by rw [hb]; exact ht)]; simp
/-- The smallest sets are the same. -/
theorem leave_eq {S : Slate} (hc : checkSlate S = 0) : leaveL S = leaveRef (allN S) (lenOf S.ss) := by
  have hG := good_of_check hc
  have hn : S.ss.length ≤ 5 := hG.s5
  have hl : leaveL S = (tried S (allSets S.ss.length) []).1 := by
    unfold leaveL allSets; rw [if_neg (by simp [hc])]
  have hP : ∀ b, b < pw S.ss.length → possibleB S (bitsOf b) = can (allN S) (bsub (fullN S.ss.length) b) := fun b hb => by
    refine possible_can hG _ _ fun i => ?_
    rw [bsub_test, fullN_test]
    simp only [Bool.and_eq_true, decide_eq_true_eq, Bool.not_eq_true']
    constructor
    · rintro ⟨h1, h2⟩
      refine ⟨h1, fun h3 => ?_⟩
      rw [mem_bitsOf (by omega), h2] at h3; cases h3
    · rintro ⟨h1, h2⟩
      refine ⟨h1, ?_⟩
      rw [mem_bitsOf (by omega)] at h2
      simpa using h2
  have hF : fullN S.ss.length < pw S.ss.length := by have := pw_pos S.ss.length; unfold fullN; omega
  have hlast : can (allN S) (bsub (fullN S.ss.length) (fullN S.ss.length)) = true := by
    rw [can_iff hG]
    refine ⟨nthRef S.es 0, nth_areOz hG.oe 0, fun i hi => ?_⟩
    rw [bsub_test] at hi
    cases h : (fullN S.ss.length).testBit i <;> simp [h] at hi
  obtain ⟨m1, _, m3⟩ := leave_min (allN S) (fullN S.ss.length) (fullN S.ss.length + 1) 0 (bitsOf (fullN S.ss.length))
  change leaveRef (allN S) S.ss.length = _ ∨ _ at m1
  have hpos := pw_pos S.ss.length
  have hFF : fullN S.ss.length + 1 = pw S.ss.length := by unfold fullN; omega
  obtain ⟨b2, hb2, he2, hc2⟩ : ∃ b2, b2 < pw S.ss.length ∧ leaveRef (allN S) S.ss.length = bitsOf b2 ∧ can (allN S) (bsub (fullN S.ss.length) b2) = true := by
    rcases m1 with h | ⟨b', _, h2, h3, h4⟩
    · exact ⟨_, hF, h, hlast⟩
    · exact ⟨b', by omega, h3, h4⟩
  have hmin : ∀ b', b' < pw S.ss.length → can (allN S) (bsub (fullN S.ss.length) b') = true → shorterL (bitsOf b') (leaveRef (allN S) S.ss.length) = false := fun b' h1 h2 => m3 b' (by omega) (by omega) h2
  obtain ⟨pre, a, post, e1, e2, e3, e4⟩ := tried_split S (allSets S.ss.length) [] ⟨bitsOf b2, sets_mem _ hn b2 hb2, by rw [hP b2 hb2]; exact hc2⟩
  rw [hl, e4]
  show a = leaveRef (allN S) S.ss.length
  have ham : a ∈ allSets S.ss.length := by rw [e1]; simp
  obtain ⟨b1, hb1, he1⟩ := sets_bits _ hn a ham
  have hm1 := hmin b1 hb1 (by rw [← hP b1 hb1, ← he1]; exact e2)
  rw [← he1] at hm1
  have h2m := sets_mem _ hn b2 hb2
  rw [e1, List.mem_append, List.mem_cons, ← he2] at h2m
  rcases h2m with h | h | h
  · have := e3 _ h
    rw [he2, hP b2 hb2, hc2] at this; cases this
  · exact h.symm
  · have hp := sets_pair _ hn
    rw [e1] at hp
    have := pairB_split hp _ h
    rw [this] at hm1; cases hm1
end Go.Proofs.Ytlhfeiacigmliaa
