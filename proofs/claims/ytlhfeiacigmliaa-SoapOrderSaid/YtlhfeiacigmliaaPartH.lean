/- The wash-house's soap: what the functions compute: all ounces are gone through. -/
import Derived.Test.YtlhfeiacigmliaaPartG
set_option linter.all false
namespace Go.Proofs.Ytlhfeiacigmliaa
open Go
set_option maxRecDepth 10000

theorem Under.low {N : Nat} {O : List AObj} {o : AObj} {M : Nat} {Q : List AObj} (h : Under N O o M Q) {b : Nat} (hb : b < N) (p : Nat) (q : Nat → Nat) : St.get ⟨M, Q, p, q⟩ b = St.get ⟨N, O, p, q⟩ b := by
  obtain ⟨l, h1, h2⟩ := h
  subst h1 h2
  simp only [St.get]
  rw [if_pos (by omega), if_pos hb, List.getElem?_append_right (by omega), show N + 1 + l.length - 1 - b - l.length = (N - 1 - b) + 1 by omega]
  simp
theorem nthO_cI {L : List Int} {i : Nat} {x : Int} (h : L[i]? = some x) : nthO (some (.cells (cellsOf cI L))) (na 0 (Nat.mul i 1)) = some (i64 x) := by
  have hd := drop_cI h
  rw [show Nat.mul i 1 = i from Nat.mul_one i] at hd
  rw [show na 0 (Nat.mul i 1) = i by simp [na]]
  simp only [nthO]
  have : (cellsOf cI L)[i]? = ((cellsOf cI L).drop i)[0]? := by simp
  rw [this, hd]; rfl
theorem storeP_cI {L : List Int} {i : Nat} (h : i < L.length) (s : St) (b : Nat) (v : Int) : storeP (some (.cells (cellsOf cI L))) s b (na 0 (Nat.mul i 1)) [i64 v] = some (s.set b (.cells (cellsOf cI (L.set i v)))) := by
  rw [show na 0 (Nat.mul i 1) = i by simp [na]]
  have hl : (cellsOf cI L).length = L.length := by rw [cells_length (sz := 1) (fun _ => rfl)]; omega
  simp only [storeP, hl, List.length_singleton, splice]
  rw [if_pos (by omega)]
  congr 4
  clear h hl
  induction L generalizing i with
  | nil => rfl
  | cons a l ih =>
    cases i with
    | zero => rfl
    | succ i =>
      have := ih (i := i)
      simp only [cells_cons, cI, List.cons_append, List.nil_append, List.set_cons_succ] at this ⊢
      rw [this]
theorem l109h (es : List Ent) (L : List Int) (hE : es.length < 1000000) (hL : L.length = es.length) (hF : OkF es) (nb : Nat) (cap : Option Nat) (N : Nat) (O : List AObj) (p : Nat) (q : Nat → Nat) (hnb : nb < N) (hg : St.get ⟨N, O, p, q⟩ nb = some (.cells (cellsOf cI L))) : ∀ (k i : Nat) (a : Nat → Int) (M : Nat) (Q : List AObj), i + k = es.length → Under N O (.cells (c6 a)) M Q →
   ∃ M' Q', Under N O (.cells (c6 fun j => owedUp (a j) (Int.ofNat j) (es.drop i) (L.drop i))) M' Q' ∧
   lim tbl (.loop a109_l0 37 ⟨[1, 4, 8, 9, 10], [4], []⟩ [.hsl nb 0 (lenOf es) cap, .ptr N 0, sl cE es, i64 (Int.ofNat (lenOf es)), i64 (Int.ofNat i)]) ⟨M, Q, p, q⟩ = some (.exit 0, [.ptr N 0], ⟨M', Q', p, q⟩) := by
  intro k
  induction k with
  | zero =>
    intro i a M Q hi hU
    refine ⟨M, Q, ?_, ?_⟩
    · rw [List.drop_eq_nil_of_le (by omega)]; exact hU
    · rw [lim_loop]
      (try simp only [go_sem, ↓reduceIte, Nat.reduceAdd, Nat.reduceEqDiff, Nat.reduceLT, Nat.reduceLeDiff, Nat.reduceBEq, Int.reduceEq, Int.reduceLT, Int.reduceLE]); (repeat ((first | (rw [lt_yes]; rotate_left; (first | omega | (simp [lenOf, app]; omega) | (simp only [lenOf]; omega))) | (rw [lt_no]; rotate_left; (first | omega | (simp [lenOf, app]; omega) | (simp only [lenOf]; omega))) | (rw [idxA_at]; rotate_left; (first | omega | (simp [lenOf, app]; omega) | (simp only [lenOf]; omega))) | (rw [wr_up]; rotate_left; (first | omega | (simp [lenOf, app]; omega) | (simp only [lenOf]; omega))) | ((first | rw [drop_cI] | rw [drop_cE] | rw [drop_cS] | rw [drop_cP] | rw [drop_cR]); rotate_left; assumption)); try simp only [go_sem, ↓reduceIte, Nat.reduceAdd, Nat.reduceEqDiff, Nat.reduceLT, Nat.reduceLeDiff, Nat.reduceBEq, Int.reduceEq, Int.reduceLT, Int.reduceLE]))
  | succ k ih =>
    intro i a M Q hi hU
    have hlt : i < es.length := by omega
    obtain ⟨e, he, hd⟩ := getElem_drop hlt
    obtain ⟨x, hx, hd'⟩ := getElem_drop (show i < L.length by omega)
    obtain ⟨f, t, hf, ht, h1, h2⟩ := hF e (List.mem_of_getElem? he)
    obtain ⟨fr, to, ⟨lo, hi'⟩⟩ := e
    simp only at h1 h2
    subst h1 h2
    rw [hd, hd']
    have nx := nthO_cI hx
    have b0 := (hU.push (.cells [i64 (Int.ofNat f), i64 (Int.ofNat t), i64 lo, i64 hi'])).low hnb p q
    rw [hg] at b0
    have g1 := hU.get1 (.cells [i64 (Int.ofNat f), i64 (Int.ofNat t), i64 lo, i64 hi']) p q
    obtain ⟨Q1, hU1, _, s1⟩ := hU.set (.cells (c6 (put a f (wr .i64 (Int.add (a f) x)))))
    have g2 := hU1.get1 (.cells [i64 (Int.ofNat f), i64 (Int.ofNat t), i64 lo, i64 hi']) p q
    have b1 := (hU1.push (.cells [i64 (Int.ofNat f), i64 (Int.ofNat t), i64 lo, i64 hi'])).low hnb p q
    rw [hg] at b1
    obtain ⟨Q2, hU2, _, s2⟩ := hU1.set (.cells (c6 (put (put a f (wr .i64 (Int.add (a f) x))) t (wr .i64 (Int.sub (put a f (wr .i64 (Int.add (a f) x)) t) x)))))
    obtain ⟨M', Q', hU', h'⟩ := ih (i + 1) _ _ _ (by omega) (hU2.push (.cells [i64 (Int.ofNat f), i64 (Int.ofNat t), i64 lo, i64 hi']))
    refine ⟨M', Q', ?_, ?_⟩
    · have : (fun j => owedUp (put (put a f (wr .i64 (Int.add (a f) x))) t (wr .i64 (Int.sub (put a f (wr .i64 (Int.add (a f) x)) t) x)) j) (Int.ofNat j) (es.drop (i + 1)) (L.drop (i + 1)))
        = (fun j => owedUp (a j) (Int.ofNat j) (⟨Int.ofNat f, Int.ofNat t, ⟨lo, hi'⟩⟩ :: es.drop (i + 1)) (x :: L.drop (i + 1))) := by
        funext j
        rw [owedUp]
        simp only [put, Int.ofNat.injEq, fold_add, fold_sub]
        congr 1
        by_cases hj1 : j = t
        · subst hj1
          by_cases hj2 : j = f
          · subst hj2; simp
          · simp [hj2, Ne.symm hj2]
        · by_cases hj2 : j = f
          · subst hj2; simp [hj1, Ne.symm hj1]
          · simp [hj1, hj2, Ne.symm hj1, Ne.symm hj2]
      rw [← this]; exact hU'
    · rw [lim_loop]
      generalize hR : some (_, _, _) = R at h' ⊢
      have n1 := nthO_c6 a hf
      have n2 := nthO_c6 (put a f (wr .i64 (Int.add (a f) x))) ht
      have p1 := fun s b => storeP_c6_1 s b a (wr .i64 (Int.add (a f) x)) hf
      have p2 := fun s b => storeP_c6_1 s b (put a f (wr .i64 (Int.add (a f) x))) (wr .i64 (Int.sub (put a f (wr .i64 (Int.add (a f) x)) t) x)) ht
      (try simp only [go_sem, ↓reduceIte, Nat.reduceAdd, Nat.reduceEqDiff, Nat.reduceLT, Nat.reduceLeDiff, Nat.reduceBEq, Int.reduceEq, Int.reduceLT, Int.reduceLE]); (repeat ((first | rw [g1] | rw [b0] | rw [nx] | rw [n1] | rw [p1] | rw [s1] | rw [g2] | rw [b1] | rw [n2] | rw [p2] | rw [s2] | (rw [lt_yes]; rotate_left; (first | omega | (simp [lenOf, app]; omega) | (simp only [lenOf]; omega))) | (rw [lt_no]; rotate_left; (first | omega | (simp [lenOf, app]; omega) | (simp only [lenOf]; omega))) | (rw [idxA_at]; rotate_left; (first | omega | (simp [lenOf, app]; omega) | (simp only [lenOf]; omega))) | (rw [wr_up]; rotate_left; (first | omega | (simp [lenOf, app]; omega) | (simp only [lenOf]; omega))) | ((first | rw [drop_cI] | rw [drop_cE] | rw [drop_cS] | rw [drop_cP] | rw [drop_cR]); rotate_left; assumption)); try simp only [go_sem, ↓reduceIte, Nat.reduceAdd, Nat.reduceEqDiff, Nat.reduceLT, Nat.reduceLeDiff, Nat.reduceBEq, Int.reduceEq, Int.reduceLT, Int.reduceLE]))
      exact h'
theorem get_lt {s : St} {b : Nat} {o : AObj} (h : s.get b = some o) : b < s.n := by
  unfold St.get at h; split at h
  · assumption
  · cases h
theorem k109h (S : Slate) (L : List Int) (hE : S.es.length < 1000000) (hL : L.length = S.es.length) (hF : OkF S.es) (nb : Nat) (cap : Option Nat) (s : St) (hg : s.get nb = some (.cells (cellsOf cI L))) : lim tbl (.call 109 [vSl S, .hsl nb 0 (lenOf S.es) cap]) s = some (.ret, [.agg (c6 (owV S.es L))], s) := by
  obtain ⟨w, es, ss⟩ := S
  rw [lim_call tbl_109]; obtain ⟨N, O, p, q⟩ := s
  have hnb : nb < N := get_lt hg
  simp only at hE hL hF
  have hnb1 : nb < na N 1 := by simp [na]; omega
  have hg1 : St.get ⟨na N 1, .cells (c6 fun _ => 0) :: O, p, q⟩ nb = some (.cells (cellsOf cI L)) := by
    rw [(Under.init N O (.cells (c6 fun _ => 0))).low hnb]; exact hg
  obtain ⟨M, Q, hU, h0⟩ := l109h es L hE hL hF nb cap N O p q hnb hg es.length 0 (fun _ => 0) (na N 1) (.cells (c6 fun _ => 0) :: O) (by omega) (Under.init ..)
  rw [ofNat_0] at h0
  rw [List.drop_zero, List.drop_zero] at hU
  change Under _ _ (.cells (c6 (owV es L))) _ _ at hU
  obtain ⟨Q1, hU1, s1, _⟩ := hU.set (.cells (c6 (owV es L)))
  have g0 := hU.get p q
  have g1 := hU1.get p q
  have ho := hU1.old p q
  have hz : c6 (fun _ => 0) = [i64 0, i64 0, i64 0, i64 0, i64 0, i64 0] := rfl
  rw [hz] at h0
  simp only
  (try simp only [go_sem, ↓reduceIte, Nat.reduceAdd, Nat.reduceEqDiff, Nat.reduceLT, Nat.reduceLeDiff, Nat.reduceBEq, Int.reduceEq, Int.reduceLT, Int.reduceLE]); (repeat ((first | rw [h0] | rw [g0] | rw [s1] | rw [g1] | rw [ho] | (rw [lt_yes]; rotate_left; (first | omega | (simp [lenOf, app]; omega) | (simp only [lenOf]; omega))) | (rw [lt_no]; rotate_left; (first | omega | (simp [lenOf, app]; omega) | (simp only [lenOf]; omega))) | (rw [idxA_at]; rotate_left; (first | omega | (simp [lenOf, app]; omega) | (simp only [lenOf]; omega))) | (rw [wr_up]; rotate_left; (first | omega | (simp [lenOf, app]; omega) | (simp only [lenOf]; omega))) | ((first | rw [drop_cI] | rw [drop_cE] | rw [drop_cS] | rw [drop_cP] | rw [drop_cR]); rotate_left; assumption)); try simp only [go_sem, ↓reduceIte, Nat.reduceAdd, Nat.reduceEqDiff, Nat.reduceLT, Nat.reduceLeDiff, Nat.reduceBEq, Int.reduceEq, Int.reduceLT, Int.reduceLE]))

end Go.Proofs.Ytlhfeiacigmliaa

/- The wash-house's soap: what the functions compute: all ounces are gone through. -/
namespace Go.Proofs.Ytlhfeiacigmliaa
open Go
set_option maxRecDepth 10000

/-- All ounces of some entries, in the program's order. -/
def rngUp (v : Int) : Nat → List Int
  | 0 => []
  | m + 1 => v :: rngUp (v + 1) m
def ozs : List Ent → List (List Int)
  | [] => [[]]
  | e :: es => (rngUp e.oz.lo (szN e.oz.lo e.oz.hi)).flatMap fun v => (ozs es).map (v :: ·)
def iterL {σ : Type} (go : σ → List Int → Bool) (step : σ → List Int → σ) : List (List Int) → σ → σ × Bool
  | [], x => (x, true)
  | L :: l, x => if go x L then iterL go step l (step x L) else (step x L, false)
theorem iterL_append {σ : Type} (go : σ → List Int → Bool) (step : σ → List Int → σ) : ∀ (a b : List (List Int)) (x : σ), iterL go step (a ++ b) x = if (iterL go step a x).2 then iterL go step b (iterL go step a x).1 else iterL go step a x
  | [], b, x => by simp [iterL]
  | L :: a, b, x => by
    simp only [List.cons_append, iterL]
    split
    · exact iterL_append go step a b _
    · simp
theorem areOz_take {es : List Ent} {L : List Int} {i : Nat} {e : Ent} {v : Int} (he : es[i]? = some e) (hi : i < L.length) (h : areOz (es.take i) (L.take i) = true) (hv : within v e.oz.lo e.oz.hi = true) : areOz (es.take (i + 1)) ((L.set i v).take (i + 1)) = true := by
  induction i generalizing es L with
  | zero =>
    cases es with
    | nil => simp at he
    | cons e' es =>
      simp at he; subst he
      cases L with
      | nil => simp at hi
      | cons a L => simp [areOz, hv]
  | succ i ih =>
    cases es with
    | nil => simp at he
    | cons e' es =>
      cases L with
      | nil => simp at hi
      | cons a L =>
        simp only [List.take_succ_cons, areOz, Bool.and_eq_true] at h
        have := ih (es := es) (L := L) (by simpa using he) (by simpa using hi) h.2
        simp only [List.set_cons_succ, List.take_succ_cons, areOz, h.1, Bool.true_and]
        exact this
theorem take_set_self (L : List Int) (i : Nat) (v : Int) : (L.set i v).take i = L.take i := by
  rw [List.take_set, List.set_eq_of_length_le (by simp; omega)]
theorem take_succ_set {L : List Int} {i : Nat} (v : Int) (h : i < L.length) : (L.set i v).take (i + 1) = L.take i ++ [v] := by
  rw [List.take_succ_eq_append_getElem (by simpa using h), take_set_self]; simp

theorem iterL_K {σ : Type} (go : σ → List Int → Bool) (step : σ → List Int → σ) (K : σ → Nat) (hK : ∀ x L, K (step x L) ≤ K x + 1) : ∀ (l : List (List Int)) (x : σ), K (iterL go step l x).1 ≤ K x + l.length
  | [], x => by simp [iterL]
  | L :: l, x => by
    have h1 := hK x L
    have h2 := iterL_K go step K hK l (step x L)
    simp only [iterL, List.length_cons]
    split
    · omega
    · simp only; omega
section
variable {σ : Type} (K : σ → Nat) (B : Nat) (J : σ → List Int → St → Prop) (E : σ → St → Prop) (go : σ → List Int → Bool) (step : σ → List Int → σ)
  (w : Int) (es : List Ent) (ss : List Say) (b nb c3 c4 : Nat)
/-- What a loop over all ounces needs. -/
structure IterOk : Prop where
  len : es.length < 1000000
  oe : OkE es
  of : OkF es
  fr : ∀ x now s, J x now s → now.length = es.length ∧ s.get nb = some (.cells (cellsOf cI now)) ∧ s.get c3 = some (.cells [.hsl nb 0 (lenOf es) (some (lenOf es))]) ∧
    s.get c4 = some (.cells [.fn (.func 131) [] [.vref [i64 w, sl cE es, sl cS ss], .vref [.yld b], .ptr c3 0, .ptr c4 0]])
  set : ∀ x now s i v, i < es.length → J x now s → J x (now.set i v) (s.set nb (.cells (cellsOf cI (now.set i v))))
  stepK : ∀ x L, K (step x L) ≤ K x + 1
  round : ∀ x now s, J x now s → K x < B → areOz es now = true → ∃ s', lim tbl (.round b [.agg (c6 (owV es now))]) s = some (.ret, [.bool (go x now)], s') ∧ if go x now then J (step x now) now s' else E (step x now) s'
/-- What choose does from an entry on. -/
def Chosen (i : Nat) (x : σ) (now : List Int) (s : St) (lists : List (List Int)) : Prop :=
  ∃ s', lim tbl (.call 131 [i64 (Int.ofNat i), .vref [i64 w, sl cE es, sl cS ss], .vref [.yld b], .ptr c3 0, .ptr c4 0]) s = some (.ret, [.bool (iterL go step lists x).2], s') ∧
    if (iterL go step lists x).2 then ∃ now', J (iterL go step lists x).1 now' s' ∧ now'.take i = now.take i else E (iterL go step lists x).1 s'
theorem l131 (h : IterOk K B J E go step w es ss b nb c3 c4) (i : Nat) (lo hi : Int) (a a' : Int) (he : es[i]? = some ⟨a, a', ⟨lo, hi⟩⟩)
    (ih : ∀ x now s, J x now s → areOz (es.take (i + 1)) (now.take (i + 1)) = true → K x + ((ozs (es.drop (i + 1))).map (now.take (i + 1) ++ ·)).length ≤ B → Chosen J E go step w es ss b c3 c4 (i + 1) x now s ((ozs (es.drop (i + 1))).map (now.take (i + 1) ++ ·))) :
    ∀ (m : Nat) (v : Int) (x : σ) (now : List Int) (s : St), v + m = hi + 1 → lo ≤ v → J x now s → areOz (es.take i) (now.take i) = true → K x + ((rngUp v m).flatMap fun u => (ozs (es.drop (i + 1))).map (now.take i ++ u :: ·)).length ≤ B →
    ∃ s', (if (iterL go step ((rngUp v m).flatMap fun u => (ozs (es.drop (i + 1))).map (now.take i ++ u :: ·)) x).2
       then lim tbl (.loop a131_l0 45 ⟨[0, 1, 3, 4, 7], [], [6]⟩ [i64 (Int.ofNat i), .vref [i64 w, sl cE es, sl cS ss], .ptr c3 0, .ptr c4 0, i64 v]) s = some (.exit 0, [], s') ∧
        ∃ now', J (iterL go step ((rngUp v m).flatMap fun u => (ozs (es.drop (i + 1))).map (now.take i ++ u :: ·)) x).1 now' s' ∧ now'.take i = now.take i
       else lim tbl (.loop a131_l0 45 ⟨[0, 1, 3, 4, 7], [], [6]⟩ [i64 (Int.ofNat i), .vref [i64 w, sl cE es, sl cS ss], .ptr c3 0, .ptr c4 0, i64 v]) s = some (.ret, [.bool false], s') ∧
        E (iterL go step ((rngUp v m).flatMap fun u => (ozs (es.drop (i + 1))).map (now.take i ++ u :: ·)) x).1 s') := by
  have hlt : i < es.length := by
    rcases Nat.lt_or_ge i es.length with h | h
    · exact h
    · rw [List.getElem?_eq_none h] at he; cases he
  have hok := h.oe _ (List.mem_of_getElem? he)
  simp only at hok
  have hlen := h.len
  intro m
  induction m with
  | zero =>
    intro v x now s hv hlo hJ hp hB
    refine ⟨s, ?_⟩
    simp only [rngUp, List.flatMap_nil, iterL, if_true]
    have hn : ¬ v ≤ hi := by omega
    refine ⟨?_, now, hJ, rfl⟩
    rw [lim_loop]
    (try simp only [go_sem, ↓reduceIte, Nat.reduceAdd, Nat.reduceEqDiff, Nat.reduceLT, Nat.reduceLeDiff, Nat.reduceBEq, Int.reduceEq, Int.reduceLT, Int.reduceLE]); (repeat ((first | rw [le_n hn] | (rw [lt_yes]; rotate_left; (first | omega | (simp [lenOf, app]; omega) | (simp only [lenOf]; omega))) | (rw [lt_no]; rotate_left; (first | omega | (simp [lenOf, app]; omega) | (simp only [lenOf]; omega))) | (rw [idxA_at]; rotate_left; (first | omega | (simp [lenOf, app]; omega) | (simp only [lenOf]; omega))) | (rw [wr_up]; rotate_left; (first | omega | (simp [lenOf, app]; omega) | (simp only [lenOf]; omega))) | ((first | rw [drop_cI] | rw [drop_cE] | rw [drop_cS] | rw [drop_cP] | rw [drop_cR]); rotate_left; assumption)); try simp only [go_sem, ↓reduceIte, Nat.reduceAdd, Nat.reduceEqDiff, Nat.reduceLT, Nat.reduceLeDiff, Nat.reduceBEq, Int.reduceEq, Int.reduceLT, Int.reduceLE]))
  | succ m ihm =>
    intro v x now s hv hlo hJ hp hB
    have hn : v ≤ hi := by omega
    have hwi : within v lo hi = true := within_iff.mpr ⟨hlo, hn⟩
    obtain ⟨hnl, g1, g2, g3⟩ := h.fr _ _ _ hJ
    have st := fun s b => storeP_cI (L := now) (i := i) (by omega) s b v
    have hJ2 := h.set x now s i v hlt hJ
    obtain ⟨_, g4, g5, g6⟩ := h.fr _ _ _ hJ2
    have hp2 := areOz_take he (by omega) hp hwi
    rw [rngUp, List.flatMap_cons, List.length_append] at hB
    have hmap : (fun l => (now.take i ++ [v]) ++ l) = fun l => now.take i ++ v :: l := by funext l; simp
    have hBx : K x + ((ozs (es.drop (i + 1))).map ((now.set i v).take (i + 1) ++ ·)).length ≤ B := by
      simp only [List.length_map] at hB ⊢; omega
    have hKy := iterL_K go step K h.stepK ((ozs (es.drop (i + 1))).map fun l => now.take i ++ v :: l) x
    obtain ⟨s1, hc, hr⟩ := ih x (now.set i v) _ hJ2 hp2 hBx
    rw [take_succ_set v (by omega)] at hc hr
    rw [hmap] at hc hr
    rw [rngUp]
    simp only [List.flatMap_cons, iterL_append]
    generalize hX : iterL go step ((ozs (es.drop (i + 1))).map fun l => now.take i ++ v :: l) x = X at hc hr hKy
    obtain ⟨y, c⟩ := X
    simp only at hc hr hKy
    have hw : wr .i64 (Int.add v 1) = v + 1 := by rw [fold_add, wr_in] <;> omega
    clear hJ2 hp2
    generalize now.set i v = nv at st g4 g5 g6 hc
    cases c with
    | true =>
      simp only [if_true] at hr
      obtain ⟨now', hJ', ht'⟩ := hr
      have ht : now'.take i = now.take i := by
        have := congrArg (List.take i) ht'
        rw [List.take_take, show min i (i + 1) = i by omega, List.take_left' (by simp; omega)] at this
        exact this
      obtain ⟨s', hs'⟩ := ihm (v + 1) y now' s1 (by omega) (by omega) hJ' (by rw [ht]; exact hp) (by rw [ht]; omega)
      refine ⟨s', ?_⟩
      rw [ht] at hs'
      simp only [if_true]
      have hstep : lim tbl (.loop a131_l0 45 ⟨[0, 1, 3, 4, 7], [], [6]⟩ [i64 (Int.ofNat i), .vref [i64 w, sl cE es, sl cS ss], .ptr c3 0, .ptr c4 0, i64 v]) s
          = lim tbl (.loop a131_l0 45 ⟨[0, 1, 3, 4, 7], [], [6]⟩ [i64 (Int.ofNat i), .vref [i64 w, sl cE es, sl cS ss], .ptr c3 0, .ptr c4 0, i64 (v + 1)]) s1 := by
        rw [lim_loop]
        generalize hR : lim tbl (.loop _ _ _ _) s1 = R
        (try simp only [go_sem, ↓reduceIte, Nat.reduceAdd, Nat.reduceEqDiff, Nat.reduceLT, Nat.reduceLeDiff, Nat.reduceBEq, Int.reduceEq, Int.reduceLT, Int.reduceLE]); (repeat ((first | rw [le_y hn] | rw [g1] | rw [g2] | rw [st] | rw [g4] | rw [g5] | rw [g6] | rw [hc] | rw [hw] | (rw [lt_yes]; rotate_left; (first | omega | (simp [lenOf, app]; omega) | (simp only [lenOf]; omega))) | (rw [lt_no]; rotate_left; (first | omega | (simp [lenOf, app]; omega) | (simp only [lenOf]; omega))) | (rw [idxA_at]; rotate_left; (first | omega | (simp [lenOf, app]; omega) | (simp only [lenOf]; omega))) | (rw [wr_up]; rotate_left; (first | omega | (simp [lenOf, app]; omega) | (simp only [lenOf]; omega))) | ((first | rw [drop_cI] | rw [drop_cE] | rw [drop_cS] | rw [drop_cP] | rw [drop_cR]); rotate_left; assumption)); try simp only [go_sem, ↓reduceIte, Nat.reduceAdd, Nat.reduceEqDiff, Nat.reduceLT, Nat.reduceLeDiff, Nat.reduceBEq, Int.reduceEq, Int.reduceLT, Int.reduceLE]))
        exact hR
      rw [hstep]
      exact hs'
    | false =>
      simp only [Bool.false_eq_true, if_false] at hr ⊢
      refine ⟨s1, ?_, hr⟩
      rw [lim_loop]
      (try simp only [go_sem, ↓reduceIte, Nat.reduceAdd, Nat.reduceEqDiff, Nat.reduceLT, Nat.reduceLeDiff, Nat.reduceBEq, Int.reduceEq, Int.reduceLT, Int.reduceLE]); (repeat ((first | rw [le_y hn] | rw [g1] | rw [g2] | rw [st] | rw [g4] | rw [g5] | rw [g6] | rw [hc] | rw [hw] | (rw [lt_yes]; rotate_left; (first | omega | (simp [lenOf, app]; omega) | (simp only [lenOf]; omega))) | (rw [lt_no]; rotate_left; (first | omega | (simp [lenOf, app]; omega) | (simp only [lenOf]; omega))) | (rw [idxA_at]; rotate_left; (first | omega | (simp [lenOf, app]; omega) | (simp only [lenOf]; omega))) | (rw [wr_up]; rotate_left; (first | omega | (simp [lenOf, app]; omega) | (simp only [lenOf]; omega))) | ((first | rw [drop_cI] | rw [drop_cE] | rw [drop_cS] | rw [drop_cP] | rw [drop_cR]); rotate_left; assumption)); try simp only [go_sem, ↓reduceIte, Nat.reduceAdd, Nat.reduceEqDiff, Nat.reduceLT, Nat.reduceLeDiff, Nat.reduceBEq, Int.reduceEq, Int.reduceLT, Int.reduceLE]))
theorem k131 (h : IterOk K B J E go step w es ss b nb c3 c4) : ∀ (k i : Nat) (x : σ) (now : List Int) (s : St), i + k = es.length → J x now s → areOz (es.take i) (now.take i) = true → K x + ((ozs (es.drop i)).map (now.take i ++ ·)).length ≤ B →
    Chosen J E go step w es ss b c3 c4 i x now s ((ozs (es.drop i)).map (now.take i ++ ·)) := by
  intro k
  induction k with
  | zero =>
    intro i x now s hi hJ hp hB
    have hB1 : K x < B := by
      rw [List.drop_eq_nil_of_le (by omega)] at hB; simp [ozs] at hB; omega
    obtain ⟨hnl, g1, g2, g3⟩ := h.fr _ _ _ hJ
    rw [List.take_of_length_le (by omega), List.take_of_length_le (by omega)] at hp
    obtain ⟨s', hr, hs'⟩ := h.round x now s hJ hB1 hp
    have h109 := k109h ⟨w, es, ss⟩ now h.len hnl h.of nb (some (lenOf es)) s g1
    simp only at h109
    have hio : Int.ofNat i = Int.ofNat (lenOf es) := by simp only [lenOf]; congr 1
    refine ⟨s', ?_, ?_⟩
    · rw [List.drop_eq_nil_of_le (by omega), List.take_of_length_le (by omega)]
      simp only [ozs, List.map_cons, List.map_nil, List.append_nil, iterL]
      have hb : (if go x now then (step x now, true) else (step x now, false)).2 = go x now := by cases go x now <;> rfl
      rw [hb, lim_call tbl_131]
      generalize owV es now = A at h109 hr
      generalize go x now = g at hr
      (try simp only [go_sem, ↓reduceIte, Nat.reduceAdd, Nat.reduceEqDiff, Nat.reduceLT, Nat.reduceLeDiff, Nat.reduceBEq, Int.reduceEq, Int.reduceLT, Int.reduceLE]); (repeat ((first | rw [eq_y hio] | rw [g2] | rw [h109] | rw [hr] | (rw [lt_yes]; rotate_left; (first | omega | (simp [lenOf, app]; omega) | (simp only [lenOf]; omega))) | (rw [lt_no]; rotate_left; (first | omega | (simp [lenOf, app]; omega) | (simp only [lenOf]; omega))) | (rw [idxA_at]; rotate_left; (first | omega | (simp [lenOf, app]; omega) | (simp only [lenOf]; omega))) | (rw [wr_up]; rotate_left; (first | omega | (simp [lenOf, app]; omega) | (simp only [lenOf]; omega))) | ((first | rw [drop_cI] | rw [drop_cE] | rw [drop_cS] | rw [drop_cP] | rw [drop_cR]); rotate_left; assumption)); try simp only [go_sem, ↓reduceIte, Nat.reduceAdd, Nat.reduceEqDiff, Nat.reduceLT, Nat.reduceLeDiff, Nat.reduceBEq, Int.reduceEq, Int.reduceLT, Int.reduceLE]))
    · rw [List.drop_eq_nil_of_le (by omega), List.take_of_length_le (by omega)]
      simp only [ozs, List.map_cons, List.map_nil, List.append_nil, iterL]
      cases hg : go x now with
      | true => rw [hg] at hs'; simp only [if_true] at hs' ⊢; exact ⟨now, hs', by rw [List.take_of_length_le (by omega)]⟩
      | false => rw [hg] at hs'; simpa using hs'
  | succ k ih =>
    intro i x now s hi hJ hp hB
    have hlt : i < es.length := by omega
    obtain ⟨e, he, hd⟩ := getElem_drop hlt
    have hok := h.oe _ (List.mem_of_getElem? he)
    obtain ⟨a, a', ⟨lo, hi'⟩⟩ := e
    simp only at hok
    have hlen := h.len
    have hm : ((ozs (es.drop i)).map (now.take i ++ ·)) = (rngUp lo (szN lo hi')).flatMap fun u => (ozs (es.drop (i + 1))).map (now.take i ++ u :: ·) := by
      rw [hd, ozs]
      simp only [List.map_flatMap, List.map_map]
      rfl
    obtain ⟨s', hs'⟩ := l131 K B J E go step w es ss b nb c3 c4 h i lo hi' a a' he (fun x now s hJ hp hB => ih (i + 1) x now s (by omega) hJ hp hB) (szN lo hi') lo x now s (by unfold szN; omega) (by omega) hJ hp (by rw [← hm]; exact hB)
    have hne : ¬ Int.ofNat i = Int.ofNat (lenOf es) := by
      intro h; have := Int.ofNat.inj h; simp only [lenOf] at this; omega
    unfold Chosen
    rw [hm]
    generalize iterL go step ((rngUp lo (szN lo hi')).flatMap fun u => (ozs (es.drop (i + 1))).map (now.take i ++ u :: ·)) x = X at hs'
    obtain ⟨y, c⟩ := X
    refine ⟨s', ?_⟩
    cases c with
    | true =>
      simp only [if_true] at hs' ⊢
      obtain ⟨hl, hJ'⟩ := hs'
      refine ⟨?_, hJ'⟩
      rw [lim_call tbl_131]
      (try simp only [go_sem, ↓reduceIte, Nat.reduceAdd, Nat.reduceEqDiff, Nat.reduceLT, Nat.reduceLeDiff, Nat.reduceBEq, Int.reduceEq, Int.reduceLT, Int.reduceLE]); (repeat ((first | rw [eq_n hne] | rw [hl] | (rw [lt_yes]; rotate_left; (first | omega | (simp [lenOf, app]; omega) | (simp only [lenOf]; omega))) | (rw [lt_no]; rotate_left; (first | omega | (simp [lenOf, app]; omega) | (simp only [lenOf]; omega))) | (rw [idxA_at]; rotate_left; (first | omega | (simp [lenOf, app]; omega) | (simp only [lenOf]; omega))) | (rw [wr_up]; rotate_left; (first | omega | (simp [lenOf, app]; omega) | (simp only [lenOf]; omega))) | ((first | rw [drop_cI] | rw [drop_cE] | rw [drop_cS] | rw [drop_cP] | rw [drop_cR]); rotate_left; assumption)); try simp only [go_sem, ↓reduceIte, Nat.reduceAdd, Nat.reduceEqDiff, Nat.reduceLT, Nat.reduceLeDiff, Nat.reduceBEq, Int.reduceEq, Int.reduceLT, Int.reduceLE]))
    | false =>
      simp only [Bool.false_eq_true, if_false] at hs' ⊢
      obtain ⟨hl, hE'⟩ := hs'
      refine ⟨?_, hE'⟩
      rw [lim_call tbl_131]
      (try simp only [go_sem, ↓reduceIte, Nat.reduceAdd, Nat.reduceEqDiff, Nat.reduceLT, Nat.reduceLeDiff, Nat.reduceBEq, Int.reduceEq, Int.reduceLT, Int.reduceLE]); (repeat ((first | rw [eq_n hne] | rw [hl] | (rw [lt_yes]; rotate_left; (first | omega | (simp [lenOf, app]; omega) | (simp only [lenOf]; omega))) | (rw [lt_no]; rotate_left; (first | omega | (simp [lenOf, app]; omega) | (simp only [lenOf]; omega))) | (rw [idxA_at]; rotate_left; (first | omega | (simp [lenOf, app]; omega) | (simp only [lenOf]; omega))) | (rw [wr_up]; rotate_left; (first | omega | (simp [lenOf, app]; omega) | (simp only [lenOf]; omega))) | ((first | rw [drop_cI] | rw [drop_cE] | rw [drop_cS] | rw [drop_cP] | rw [drop_cR]); rotate_left; assumption)); try simp only [go_sem, ↓reduceIte, Nat.reduceAdd, Nat.reduceEqDiff, Nat.reduceLT, Nat.reduceLeDiff, Nat.reduceBEq, Int.reduceEq, Int.reduceLT, Int.reduceLE]))
end
end Go.Proofs.Ytlhfeiacigmliaa

/- The wash-house's soap: what the functions compute: is there a truth without some sayings. -/
namespace Go.Proofs.Ytlhfeiacigmliaa
open Go
set_option maxRecDepth 10000

def gO (N : Nat) (O : List AObj) (b : Nat) : Option AObj := if b < N then O[N - 1 - b]? else none
def OldO (N0 : Nat) (O0 : List AObj) (N : Nat) (O : List AObj) : Prop := N0 ≤ N ∧ O.drop (N - N0) = O0
theorem gO_lt {N : Nat} {O : List AObj} {b : Nat} {o : AObj} (h : gO N O b = some o) : b < N := by
  unfold gO at h; split at h
  · assumption
  · cases h
theorem gO_push {N : Nat} {O : List AObj} {b : Nat} {o : AObj} (h : gO N O b = some o) (o' : AObj) : gO (na N 1) (o' :: O) b = some o := by
  have hb := gO_lt h
  unfold gO at h ⊢
  rw [if_pos hb] at h
  rw [if_pos (by simp [na]; omega), show na N 1 - 1 - b = (N - 1 - b) + 1 by simp [na]; omega]
  simpa using h
theorem gO_new (N : Nat) (O : List AObj) (o : AObj) : gO (na N 1) (o :: O) N = some o := by
  unfold gO
  rw [if_pos (by simp [na]), show na N 1 - 1 - N = 0 by simp [na]]; rfl
theorem OldO.refl (N : Nat) (O : List AObj) : OldO N O N O := ⟨Nat.le_refl _, by simp⟩
theorem OldO.push {N0 : Nat} {O0 : List AObj} {N : Nat} {O : List AObj} (h : OldO N0 O0 N O) (o : AObj) : OldO N0 O0 (na N 1) (o :: O) := by
  obtain ⟨h1, h2⟩ := h
  refine ⟨by simp [na]; omega, ?_⟩
  rw [show na N 1 - N0 = (N - N0) + 1 by simp [na]; omega]; simpa using h2
theorem OldO.old {N0 : Nat} {O0 : List AObj} {N : Nat} {O : List AObj} (h : OldO N0 O0 N O) (p : Nat) (q : Nat → Nat) (p' : Nat) : Ytlhfeiacigmliaa.old ⟨N0, O0, p, q⟩ ⟨N, O, p', q⟩ = true := by
  simp only [Ytlhfeiacigmliaa.old, decide_eq_true_eq]
  exact ⟨h.1, h.2, fun _ _ => rfl⟩
theorem OldO.oldr {N0 : Nat} {O0 : List AObj} {N : Nat} {O : List AObj} (h : OldO N0 O0 N O) (p : Nat) (q : Nat → Nat) (p' k : Nat) : Ytlhfeiacigmliaa.old ⟨N0, O0, p, q⟩ ⟨N, O, p', roomC p q k⟩ = true := by
  simp only [Ytlhfeiacigmliaa.old, decide_eq_true_eq]
  exact ⟨h.1, h.2, fun x hx => roomC_old p q k x hx⟩
theorem OldO.trans {N0 : Nat} {O0 : List AObj} {N1 : Nat} {O1 : List AObj} {N : Nat} {O : List AObj} (h : OldO N0 O0 N1 O1) (h' : OldO N1 O1 N O) : OldO N0 O0 N O := by
  obtain ⟨h1, h2⟩ := h
  obtain ⟨h3, h4⟩ := h'
  refine ⟨by omega, ?_⟩
  rw [← h2, ← h4, List.drop_drop]; congr 1; omega
theorem gO_set {N : Nat} {O : List AObj} {b : Nat} {o : AObj} (h : gO N O b = some o) (o' : AObj) : ∃ O',
    (∀ p q, St.set ⟨N, O, p, q⟩ b o' = ⟨N, O', p, q⟩) ∧ (∀ o1 p q, St.set ⟨na N 1, o1 :: O, p, q⟩ b o' = ⟨na N 1, o1 :: O', p, q⟩) ∧
    gO N O' b = some o' ∧ (∀ b', b' ≠ b → gO N O' b' = gO N O b') ∧ ∀ N0 O0, OldO N0 O0 N O → N0 ≤ b → OldO N0 O0 N O' := by
  have hb := gO_lt h
  unfold gO at h
  rw [if_pos hb] at h
  have hlen : N - 1 - b < O.length := by
    rcases Nat.lt_or_ge (N - 1 - b) O.length with g | g
    · exact g
    · rw [List.getElem?_eq_none g] at h; cases h
  refine ⟨O.set (N - 1 - b) o', fun _ _ => rfl, fun o1 p q => ?_, ?_, fun b' hb' => ?_, fun N0 O0 h0 hn => ?_⟩
  · simp only [St.set, St.mk.injEq, and_self, and_true, true_and]
    rw [show na N 1 - 1 - b = (N - 1 - b) + 1 by simp [na]; omega, List.set_cons_succ]
  · unfold gO; rw [if_pos hb]; simp [hlen]
  · unfold gO
    by_cases h1 : b' < N
    · rw [if_pos h1, if_pos h1, List.getElem?_set_ne (by omega)]
    · rw [if_neg h1, if_neg h1]
  · obtain ⟨h1, h2⟩ := h0
    refine ⟨h1, ?_⟩
    rw [List.drop_set_of_lt (by omega)]; exact h2

def zerosL (n : Nat) : List Int := List.replicate n 0
theorem repl_zeros (n : Nat) : repl [i64 0] n = cellsOf cI (zerosL n) := by
  induction n with
  | zero => rfl
  | succ n ih => rw [repl, ih]; rfl
theorem mkS_at {n : Nat} (h : n < 1000000) (N : Nat) (O : List AObj) (p : Nat) (q : Nat → Nat) : mkS [i64 0] 8 (i64 (Int.ofNat n)) (i64 (Int.ofNat n)) ⟨N, O, p, q⟩ = some (.hsl N 0 n (some n), ⟨na N 1, .cells (cellsOf cI (zerosL n)) :: O, p, q⟩) := by
  unfold mkS i64
  simp only
  rw [if_pos ⟨by simp, by simp, by simp; omega, by simp; omega⟩]
  simp only [Int.ofNat_eq_natCast, Int.toNat_natCast, repl_zeros]
  rfl

@[go_sem] theorem k106 (w : Int) (es : List Ent) (ss : List Say) (s : St) : lim tbl (.call 106 [.agg [i64 w, sl cE es, sl cS ss]]) s = some (.ret, [.fn (.func 130) [] [.vref [i64 w, sl cE es, sl cS ss]]], s) := by
  rw [lim_call tbl_106]; obtain ⟨N, O, p, q⟩ := s
  (try simp only [go_sem, ↓reduceIte, Nat.reduceAdd, Nat.reduceEqDiff, Nat.reduceLT, Nat.reduceLeDiff, Nat.reduceBEq, Int.reduceEq, Int.reduceLT, Int.reduceLE]); (repeat ((first | (rw [lt_yes]; rotate_left; (first | omega | (simp [lenOf, app]; omega) | (simp only [lenOf]; omega))) | (rw [lt_no]; rotate_left; (first | omega | (simp [lenOf, app]; omega) | (simp only [lenOf]; omega))) | (rw [idxA_at]; rotate_left; (first | omega | (simp [lenOf, app]; omega) | (simp only [lenOf]; omega))) | (rw [wr_up]; rotate_left; (first | omega | (simp [lenOf, app]; omega) | (simp only [lenOf]; omega))) | ((first | rw [drop_cI] | rw [drop_cE] | rw [drop_cS] | rw [drop_cP] | rw [drop_cR]); rotate_left; assumption)); try simp only [go_sem, ↓reduceIte, Nat.reduceAdd, Nat.reduceEqDiff, Nat.reduceLT, Nat.reduceLeDiff, Nat.reduceBEq, Int.reduceEq, Int.reduceLT, Int.reduceLE]))
theorem k130 {σ : Type} {K : σ → Nat} {B : Nat} {J : σ → List Int → St → Prop} {E : σ → St → Prop} {go : σ → List Int → Bool} {step : σ → List Int → σ} {w : Int} {es : List Ent} {ss : List Say} {b : Nat} {N : Nat} {O : List AObj} {p : Nat} {q : Nat → Nat}
    (h : IterOk K B J E go step w es ss b N (na N 1) (na (na N 1) 1)) (x : σ) (hB : K x + (ozs es).length ≤ B)
    (hJ : J x (zerosL es.length) ⟨na (na (na N 1) 1) 1, .cells [.fn (.func 131) [] [.vref [i64 w, sl cE es, sl cS ss], .vref [.yld b], .ptr (na N 1) 0, .ptr (na (na N 1) 1) 0]] :: .cells [.hsl N 0 (lenOf es) (some (lenOf es))] :: .cells (cellsOf cI (zerosL (lenOf es))) :: O, p, q⟩) :
    ∃ s', lim tbl (.call 130 [.yld b, .vref [i64 w, sl cE es, sl cS ss]]) ⟨N, O, p, q⟩ = some (.ret, [.tup []], s') ∧
      if (iterL go step (ozs es) x).2 then ∃ now', J (iterL go step (ozs es) x).1 now' s' else E (iterL go step (ozs es) x).1 s' := by
  have hlen := h.len
  obtain ⟨s', hc, hr⟩ := k131 K B J E go step w es ss b N (na N 1) (na (na N 1) 1) h es.length 0 x _ _ (by omega) hJ rfl (by simpa using hB)
  have hid : (ozs (es.drop 0)).map ((zerosL es.length).take 0 ++ ·) = ozs es := by simp
  rw [hid] at hc hr
  rw [ofNat_0] at hc
  have hm := mkS_at (n := lenOf es) (by simp only [lenOf]; omega) N O p q
  refine ⟨s', ?_, ?_⟩
  · rw [lim_call tbl_130]
    generalize (iterL go step (ozs es) x).2 = r at hc
    (try simp only [go_sem, ↓reduceIte, Nat.reduceAdd, Nat.reduceEqDiff, Nat.reduceLT, Nat.reduceLeDiff, Nat.reduceBEq, Int.reduceEq, Int.reduceLT, Int.reduceLE]); (repeat ((first | rw [hm] | rw [hc] | (rw [lt_yes]; rotate_left; (first | omega | (simp [lenOf, app]; omega) | (simp only [lenOf]; omega))) | (rw [lt_no]; rotate_left; (first | omega | (simp [lenOf, app]; omega) | (simp only [lenOf]; omega))) | (rw [idxA_at]; rotate_left; (first | omega | (simp [lenOf, app]; omega) | (simp only [lenOf]; omega))) | (rw [wr_up]; rotate_left; (first | omega | (simp [lenOf, app]; omega) | (simp only [lenOf]; omega))) | ((first | rw [drop_cI] | rw [drop_cE] | rw [drop_cS] | rw [drop_cP] | rw [drop_cR]); rotate_left; assumption)); try simp only [go_sem, ↓reduceIte, Nat.reduceAdd, Nat.reduceEqDiff, Nat.reduceLT, Nat.reduceLeDiff, Nat.reduceBEq, Int.reduceEq, Int.reduceLT, Int.reduceLE]))
  · split at hr
    · rename_i h1
      rw [if_pos h1]
      obtain ⟨now', h2, _⟩ := hr
      exact ⟨now', h2⟩
    · rename_i h1
      rw [if_neg h1]; exact hr

end Go.Proofs.Ytlhfeiacigmliaa

/- The wash-house's soap: what the functions compute: is there a truth without some sayings. -/
namespace Go.Proofs.Ytlhfeiacigmliaa
open Go
set_option maxRecDepth 10000

def loop85 (w : Int) (es : List Ent) (ss : List Say) (out : List Int) (N : Nat) (st : LoopState) (pd : Option AExit) : AObj :=
  .loop ⟨st, pd, [.agg [i64 w, sl cE es, sl cS ss], sl cI out, .vref [i64 w, sl cE es, sl cS ss], .vref [sl cI out], .ptr N 0, .tup [], .agg [i64 w, sl cE es, sl cS ss],
    .fn (.func 130) [] [.vref [i64 w, sl cE es, sl cS ss]], .tup [], .tup [], .tup [], .tup [], .tup []], [8],
    .ops [⟨some 5, none, .alloc [i64 0, i64 0, i64 0, i64 0, i64 0, i64 0]⟩, ⟨none, none, .store 6 (.tmp 5) (.tmp 8)⟩], a85_l0⟩
/-- There is a truth without some sayings. -/
def possibleB (S : Slate) (out : List Int) : Bool := (ozs S.es).any fun L => rightUp (owV S.es L) out 0 S.ss
theorem iter_any (P : List Int → Bool) : ∀ (l : List (List Int)), (iterL (fun (_ : Unit) L => !P L) (fun x _ => x) l ()).2 = !l.any P
  | [] => rfl
  | L :: l => by
    simp only [iterL, List.any_cons]
    cases h : P L with
    | true => simp
    | false => simp [iter_any P l]
def J85 (w : Int) (es : List Ent) (ss : List Say) (out : List Int) (N : Nat) (O : List AObj) (p : Nat) (q : Nat → Nat) (now : List Int) (s : St) : Prop :=
  ∃ M Q, s = ⟨M, Q, p, q⟩ ∧ OldO N O M Q ∧ gO M Q N = some (.cells [.bool false]) ∧ gO M Q (na N 1) = some (loop85 w es ss out N .ready none) ∧ now.length = es.length ∧
    gO M Q (na (na N 1) 1) = some (.cells (cellsOf cI now)) ∧ gO M Q (na (na (na N 1) 1) 1) = some (.cells [.hsl (na (na N 1) 1) 0 (lenOf es) (some (lenOf es))]) ∧
    gO M Q (na (na (na (na N 1) 1) 1) 1) = some (.cells [.fn (.func 131) [] [.vref [i64 w, sl cE es, sl cS ss], .vref [.yld (na N 1)], .ptr (na (na (na N 1) 1) 1) 0, .ptr (na (na (na (na N 1) 1) 1) 1) 0]])
def E85 (w : Int) (es : List Ent) (ss : List Say) (out : List Int) (N : Nat) (O : List AObj) (p : Nat) (q : Nat → Nat) (s : St) : Prop :=
  ∃ M Q, s = ⟨M, Q, p, q⟩ ∧ OldO N O M Q ∧ gO M Q N = some (.cells [.bool true]) ∧ gO M Q (na N 1) = some (loop85 w es ss out N .done (some .ret))
theorem it85 {w : Int} {es : List Ent} {ss : List Say} {out : List Int} (hG : Good ⟨w, es, ss⟩) (ho : out.length < 1000000) (N : Nat) (O : List AObj) (p : Nat) (q : Nat → Nat) :
    IterOk (σ := Unit) (fun _ => 0) (ozs es).length (fun _ => J85 w es ss out N O p q) (fun _ => E85 w es ss out N O p q) (fun _ L => !rightUp (owV es L) out 0 ss) (fun x _ => x) w es ss (na N 1) (na (na N 1) 1) (na (na (na N 1) 1) 1) (na (na (na (na N 1) 1) 1) 1) := by
  refine ⟨by have := hG.e6; simp only at this; omega, hG.oe, hG.of, ?_, ?_, fun _ _ => by omega, ?_⟩
  · rintro _ now s ⟨M, Q, rfl, h1, h2, h3, h4, h5, h6, h7⟩
    exact ⟨h4, h5, h6, h7⟩
  · rintro _ now s i v hi ⟨M, Q, rfl, h1, h2, h3, h4, h5, h6, h7⟩
    obtain ⟨Q', s1, _, g1, g2, g3⟩ := gO_set h5 (.cells (cellsOf cI (now.set i v)))
    refine ⟨M, Q', s1 p q, g3 _ _ h1 (by simp [na]; omega), ?_, ?_, by simpa using h4, g1, ?_, ?_⟩
    · rw [g2 _ (by simp [na]; omega)]; exact h2
    · rw [g2 _ (by first | omega | (simp only [na]; omega))]; exact h3
    · rw [g2 _ (by first | omega | (simp only [na]; omega))]; exact h6
    · rw [g2 _ (by first | omega | (simp only [na]; omega))]; exact h7
  · rintro _ now s ⟨M, Q, rfl, h1, h2, h3, h4, h5, h6, h7⟩ _ _
    have h96 := fun s => k96 ⟨w, es, ss⟩ (owV es now) out (by have := hG.s5; simp only at this ⊢; omega) ho hG.os s
    simp only at h96
    have hr := lim_round (T := tbl) (l := na N 1) (args := [.agg (c6 (owV es now))]) (s := ⟨M, Q, p, q⟩) h3 rfl
    rw [hr]
    have hNM := gO_lt h3
    have ob := fun o => gO_push h3 o
    have ot := fun o => gO_push h2 o
    obtain ⟨Q1, _, s1, g1, g2, g3⟩ := gO_set h3 (loop85 w es ss out N .busy none)
    have hb1 := fun o => gO_push g1 o
    generalize owV es now = A at h96
    cases hR : rightUp A out 0 ss with
    | false =>
      rw [hR] at h96
      obtain ⟨Q2, _, s2, g4, g5, g6⟩ := gO_set g1 (loop85 w es ss out N .ready none)
      refine ⟨⟨na M 1, .cells (c6 A) :: Q2, p, q⟩, ?_, ?_⟩
      · have e1 : St.get ⟨na M 1, .cells (c6 A) :: Q, p, q⟩ (na N 1) = some (loop85 w es ss out N .ready none) := ob _
        have e2 : St.get ⟨na M 1, .cells (c6 A) :: Q1, p, q⟩ (na N 1) = some (loop85 w es ss out N .busy none) := hb1 _
        unfold loop85 at e1 e2 s1 s2
        (try simp only [go_sem, ↓reduceIte, Nat.reduceAdd, Nat.reduceEqDiff, Nat.reduceLT, Nat.reduceLeDiff, Nat.reduceBEq, Int.reduceEq, Int.reduceLT, Int.reduceLE]); (repeat ((first | rw [e1] | rw [s1] | simp only [h96] | rw [e2] | rw [s2] | (rw [lt_yes]; rotate_left; (first | omega | (simp [lenOf, app]; omega) | (simp only [lenOf]; omega))) | (rw [lt_no]; rotate_left; (first | omega | (simp [lenOf, app]; omega) | (simp only [lenOf]; omega))) | (rw [idxA_at]; rotate_left; (first | omega | (simp [lenOf, app]; omega) | (simp only [lenOf]; omega))) | (rw [wr_up]; rotate_left; (first | omega | (simp [lenOf, app]; omega) | (simp only [lenOf]; omega))) | ((first | rw [drop_cI] | rw [drop_cE] | rw [drop_cS] | rw [drop_cP] | rw [drop_cR]); rotate_left; assumption)); try simp only [go_sem, ↓reduceIte, Nat.reduceAdd, Nat.reduceEqDiff, Nat.reduceLT, Nat.reduceLeDiff, Nat.reduceBEq, Int.reduceEq, Int.reduceLT, Int.reduceLE]))
      · simp only [Bool.not_false, if_true]
        refine ⟨na M 1, _, rfl, (g6 _ _ (g3 _ _ h1 (by first | omega | (simp only [na]; omega))) (by first | omega | (simp only [na]; omega))).push _, ?_, gO_push g4 _, h4, ?_, ?_, ?_⟩
        · refine gO_push ?_ _; rw [g5 _ (by first | omega | (simp only [na]; omega)), g2 _ (by first | omega | (simp only [na]; omega))]; exact h2
        · refine gO_push ?_ _; rw [g5 _ (by first | omega | (simp only [na]; omega)), g2 _ (by first | omega | (simp only [na]; omega))]; exact h5
        · refine gO_push ?_ _; rw [g5 _ (by first | omega | (simp only [na]; omega)), g2 _ (by first | omega | (simp only [na]; omega))]; exact h6
        · refine gO_push ?_ _; rw [g5 _ (by first | omega | (simp only [na]; omega)), g2 _ (by first | omega | (simp only [na]; omega))]; exact h7
    | true =>
      rw [hR] at h96
      have k1 : gO M Q1 N = some (.cells [.bool false]) := by rw [g2 _ (by first | omega | (simp only [na]; omega))]; exact h2
      obtain ⟨Q2, _, s2, g4, g5, g6⟩ := gO_set k1 (.cells [.bool true])
      have k2 : gO M Q2 (na N 1) = some (loop85 w es ss out N .busy none) := by rw [g5 _ (by first | omega | (simp only [na]; omega))]; exact g1
      obtain ⟨Q3, _, s3, g7, g8, g9⟩ := gO_set k2 (loop85 w es ss out N .done (some .ret))
      refine ⟨⟨na M 1, .cells (c6 A) :: Q3, p, q⟩, ?_, ?_⟩
      · have e1 : St.get ⟨na M 1, .cells (c6 A) :: Q, p, q⟩ (na N 1) = some (loop85 w es ss out N .ready none) := ob _
        have e2 : St.get ⟨na M 1, .cells (c6 A) :: Q1, p, q⟩ N = some (.cells [.bool false]) := gO_push k1 _
        have e3 : St.get ⟨na M 1, .cells (c6 A) :: Q2, p, q⟩ (na N 1) = some (loop85 w es ss out N .busy none) := gO_push k2 _
        unfold loop85 at e1 e3 s1 s3
        (try simp only [go_sem, ↓reduceIte, Nat.reduceAdd, Nat.reduceEqDiff, Nat.reduceLT, Nat.reduceLeDiff, Nat.reduceBEq, Int.reduceEq, Int.reduceLT, Int.reduceLE]); (repeat ((first | rw [e1] | rw [s1] | simp only [h96] | rw [e2] | rw [s2] | rw [e3] | rw [s3] | (rw [lt_yes]; rotate_left; (first | omega | (simp [lenOf, app]; omega) | (simp only [lenOf]; omega))) | (rw [lt_no]; rotate_left; (first | omega | (simp [lenOf, app]; omega) | (simp only [lenOf]; omega))) | (rw [idxA_at]; rotate_left; (first | omega | (simp [lenOf, app]; omega) | (simp only [lenOf]; omega))) | (rw [wr_up]; rotate_left; (first | omega | (simp [lenOf, app]; omega) | (simp only [lenOf]; omega))) | ((first | rw [drop_cI] | rw [drop_cE] | rw [drop_cS] | rw [drop_cP] | rw [drop_cR]); rotate_left; assumption)); try simp only [go_sem, ↓reduceIte, Nat.reduceAdd, Nat.reduceEqDiff, Nat.reduceLT, Nat.reduceLeDiff, Nat.reduceBEq, Int.reduceEq, Int.reduceLT, Int.reduceLE]))
      · simp only [Bool.not_true, Bool.false_eq_true, if_false]
        refine ⟨na M 1, _, rfl, (g9 _ _ (g6 _ _ (g3 _ _ h1 (by first | omega | (simp only [na]; omega))) (by first | omega | (simp only [na]; omega))) (by first | omega | (simp only [na]; omega))).push _, ?_, gO_push g7 _⟩
        refine gO_push ?_ _; rw [g8 _ (by first | omega | (simp only [na]; omega))]; exact g4
theorem k85 (S : Slate) (out : List Int) (hG : Good S) (ho : out.length < 1000000) (s : St) : lim tbl (.call 85 [vSl S, sl cI out]) s = some (.ret, [.bool (possibleB S out)], s) := by
  obtain ⟨w, es, ss⟩ := S
  obtain ⟨N, O, p, q⟩ := s
  have hJ : J85 w es ss out N O p q (zerosL es.length) ⟨na (na (na (na (na N 1) 1) 1) 1) 1, .cells [.fn (.func 131) [] [.vref [i64 w, sl cE es, sl cS ss], .vref [.yld (na N 1)], .ptr (na (na (na N 1) 1) 1) 0, .ptr (na (na (na (na N 1) 1) 1) 1) 0]] ::
      .cells [.hsl (na (na N 1) 1) 0 (lenOf es) (some (lenOf es))] :: .cells (cellsOf cI (zerosL (lenOf es))) :: loop85 w es ss out N .ready none :: .cells [.bool false] :: O, p, q⟩ := by
    refine ⟨_, _, rfl, ((((OldO.refl N O).push _).push _).push _).push _ |>.push _, ?_, ?_, by simp [zerosL], ?_, ?_, ?_⟩
    · exact gO_push (gO_push (gO_push (gO_push (gO_new ..) _) _) _) _
    · exact gO_push (gO_push (gO_push (gO_new ..) _) _) _
    · exact gO_push (gO_push (gO_new ..) _) _
    · exact gO_push (gO_new ..) _
    · exact gO_new ..
  obtain ⟨s', hc, hr⟩ := k130 (it85 hG ho N O p q) () (by simp) hJ
  rw [iter_any (fun L => rightUp (owV es L) out 0 ss)] at hr
  change (if (!possibleB ⟨w, es, ss⟩ out) = true then _ else _) at hr
  rw [lim_call tbl_85]
  cases hp : possibleB ⟨w, es, ss⟩ out with
  | true =>
    rw [hp] at hr; simp only [Bool.not_true, Bool.false_eq_true, if_false] at hr
    obtain ⟨M, Q, rfl, h1, h2, h3⟩ := hr
    obtain ⟨Q1, s1, _, g1, g2, g3⟩ := gO_set h3 (loop85 w es ss out N .exhausted (some .ret))
    have e1 : St.get ⟨M, Q, p, q⟩ (na N 1) = some (loop85 w es ss out N .done (some .ret)) := h3
    have e2 : St.get ⟨M, Q1, p, q⟩ N = some (.cells [.bool true]) := by
      have : gO M Q1 N = some (.cells [.bool true]) := by rw [g2 _ (by first | omega | (simp only [na]; omega))]; exact h2
      exact this
    have hold := (g3 _ _ h1 (by first | omega | (simp only [na]; omega))).old p q p
    unfold loop85 at hc e1 s1
    (try simp only [go_sem, ↓reduceIte, Nat.reduceAdd, Nat.reduceEqDiff, Nat.reduceLT, Nat.reduceLeDiff, Nat.reduceBEq, Int.reduceEq, Int.reduceLT, Int.reduceLE]); (repeat ((first | rw [hc] | rw [e1] | rw [s1] | rw [e2] | rw [hold] | (rw [lt_yes]; rotate_left; (first | omega | (simp [lenOf, app]; omega) | (simp only [lenOf]; omega))) | (rw [lt_no]; rotate_left; (first | omega | (simp [lenOf, app]; omega) | (simp only [lenOf]; omega))) | (rw [idxA_at]; rotate_left; (first | omega | (simp [lenOf, app]; omega) | (simp only [lenOf]; omega))) | (rw [wr_up]; rotate_left; (first | omega | (simp [lenOf, app]; omega) | (simp only [lenOf]; omega))) | ((first | rw [drop_cI] | rw [drop_cE] | rw [drop_cS] | rw [drop_cP] | rw [drop_cR]); rotate_left; assumption)); try simp only [go_sem, ↓reduceIte, Nat.reduceAdd, Nat.reduceEqDiff, Nat.reduceLT, Nat.reduceLeDiff, Nat.reduceBEq, Int.reduceEq, Int.reduceLT, Int.reduceLE]))
  | false =>
    rw [hp] at hr; simp only [Bool.not_false, if_true] at hr
    obtain ⟨now', M, Q, rfl, h1, h2, h3, _⟩ := hr
    obtain ⟨Q1, s1, _, g1, g2, g3⟩ := gO_set h3 (loop85 w es ss out N .exhausted none)
    have e1 : St.get ⟨M, Q, p, q⟩ (na N 1) = some (loop85 w es ss out N .ready none) := h3
    have k2 : gO M Q1 N = some (.cells [.bool false]) := by rw [g2 _ (by first | omega | (simp only [na]; omega))]; exact h2
    have e2 : St.get ⟨M, Q1, p, q⟩ N = some (.cells [.bool false]) := k2
    obtain ⟨Q2, s2, _, g4, g5, g6⟩ := gO_set k2 (.cells [.bool false])
    have e3 : St.get ⟨M, Q2, p, q⟩ N = some (.cells [.bool false]) := g4
    have hold := (g6 _ _ (g3 _ _ h1 (by first | omega | (simp only [na]; omega))) (by first | omega | (simp only [na]; omega))).old p q p
    unfold loop85 at hc e1 s1
    (try simp only [go_sem, ↓reduceIte, Nat.reduceAdd, Nat.reduceEqDiff, Nat.reduceLT, Nat.reduceLeDiff, Nat.reduceBEq, Int.reduceEq, Int.reduceLT, Int.reduceLE]); (repeat ((first | rw [hc] | rw [e1] | rw [s1] | rw [e2] | rw [s2] | rw [e3] | rw [hold] | (rw [lt_yes]; rotate_left; (first | omega | (simp [lenOf, app]; omega) | (simp only [lenOf]; omega))) | (rw [lt_no]; rotate_left; (first | omega | (simp [lenOf, app]; omega) | (simp only [lenOf]; omega))) | (rw [idxA_at]; rotate_left; (first | omega | (simp [lenOf, app]; omega) | (simp only [lenOf]; omega))) | (rw [wr_up]; rotate_left; (first | omega | (simp [lenOf, app]; omega) | (simp only [lenOf]; omega))) | ((first | rw [drop_cI] | rw [drop_cE] | rw [drop_cS] | rw [drop_cP] | rw [drop_cR]); rotate_left; assumption)); try simp only [go_sem, ↓reduceIte, Nat.reduceAdd, Nat.reduceEqDiff, Nat.reduceLT, Nat.reduceLeDiff, Nat.reduceBEq, Int.reduceEq, Int.reduceLT, Int.reduceLE]))
theorem k85n (S : Slate) (hG : Good S) (s : St) : lim tbl (.call 85 [vSl S, .sl0]) s = some (.ret, [.bool (possibleB S [])], s) := by
  have h := k85 S [] hG (by simp) s
  rw [lim_call tbl_85] at h ⊢
  exact h
end Go.Proofs.Ytlhfeiacigmliaa

/- The wash-house's soap: what the functions compute: the first wrong saying. -/
namespace Go.Proofs.Ytlhfeiacigmliaa
open Go
set_option maxRecDepth 10000

theorem take_cells {α : Type} {f : α → List AVal} {sz : Nat} (hf : ∀ a, (f a).length = sz) : ∀ (l : List α) (n : Nat), (cellsOf f l).take (n * sz) = cellsOf f (l.take n)
  | [], n => by simp [cells_nil]
  | a :: l, 0 => by simp [cells_nil]
  | a :: l, n + 1 => by
    have ih := take_cells hf l n
    rw [cells_cons, List.take_succ_cons, cells_cons, ← ih, show (n + 1) * sz = (f a).length + n * sz by rw [hf, Nat.add_mul]; omega, List.take_length_add_append]
theorem sliceHi_at {α : Type} {f : α → List AVal} {sz : Nat} (hf : ∀ a, (f a).length = sz) (l : List α) {n : Nat} (h : n ≤ l.length) (pm : Perm) : sliceHi sz (.vsl (cellsOf f l) (lenOf l) pm) (i64 (Int.ofNat n)) = some (sl f (l.take n)) := by
  have hb : bndV (i64 (Int.ofNat n)) l.length = some n := bnd_in h
  have b1 : ∀ d m, boundA [i64 (Int.ofNat n)] (some (.tmp 0)) d m = bndV (i64 (Int.ofNat n)) m := fun _ _ => rfl
  have b0 : ∀ d m, boundA [i64 (Int.ofNat n)] none d m = some d := fun _ _ => rfl
  unfold sliceHi sliceA
  simp only [b1, b0, lenOf, Option.bind_eq_bind, Option.bind_some, hb, cells_length hf, if_true, Nat.zero_mul, List.drop_zero, Nat.sub_zero, take_cells hf]
  simp [sl, lenOf, Nat.min_eq_left h]
theorem Good.take {w : Int} {es : List Ent} {ss : List Say} (h : Good ⟨w, es, ss⟩) (n : Nat) : Good ⟨w, es, ss.take n⟩ := by
  refine ⟨h.w0, h.w6, h.e6, ?_, h.oe, h.of, fun x hx => h.os x (List.mem_of_mem_take hx)⟩
  have := h.s5
  simp only [List.length_take] at this ⊢
  omega
def firstPUp (S : Slate) : Nat → Nat → Option Nat
  | 0, _ => none
  | k + 1, i => if possibleB ⟨S.women, S.es, S.ss.take (i + 1)⟩ [] then firstPUp S k (i + 1) else some i
theorem l40 (w : Int) (es : List Ent) (ss : List Say) (hG : Good ⟨w, es, ss⟩) (N : Nat) (O : List AObj) (p : Nat) (q : Nat → Nat) : ∀ (k i : Nat) (X : AVal), i + k = ss.length →
    ∃ X', lim tbl (.loop a40_l0 30 ⟨[1, 5, 15, 16], [], [2, 3]⟩ [.vref [i64 w, sl cE es, sl cS ss], .ptr N 0, i64 (Int.ofNat (lenOf ss)), i64 (Int.ofNat i)]) ⟨na N 1, .cells [i64 w, sl cE es, X] :: O, p, q⟩
     = match firstPUp ⟨w, es, ss⟩ k i with
       | none => some (.exit 0, [], ⟨na N 1, .cells [i64 w, sl cE es, X'] :: O, p, q⟩)
       | some j => some (.ret, [i64 (Int.ofNat j), i64 0], ⟨na N 1, .cells [i64 w, sl cE es, X'] :: O, p, q⟩) := by
  intro k
  have hs5 := hG.s5
  simp only at hs5
  induction k with
  | zero =>
    intro i X hi
    refine ⟨X, ?_⟩
    simp only [firstPUp]
    rw [lim_loop]
    (try simp only [go_sem, ↓reduceIte, Nat.reduceAdd, Nat.reduceEqDiff, Nat.reduceLT, Nat.reduceLeDiff, Nat.reduceBEq, Int.reduceEq, Int.reduceLT, Int.reduceLE]); (repeat ((first | (rw [lt_yes]; rotate_left; (first | omega | (simp [lenOf, app]; omega) | (simp only [lenOf]; omega))) | (rw [lt_no]; rotate_left; (first | omega | (simp [lenOf, app]; omega) | (simp only [lenOf]; omega))) | (rw [idxA_at]; rotate_left; (first | omega | (simp [lenOf, app]; omega) | (simp only [lenOf]; omega))) | (rw [wr_up]; rotate_left; (first | omega | (simp [lenOf, app]; omega) | (simp only [lenOf]; omega))) | ((first | rw [drop_cI] | rw [drop_cE] | rw [drop_cS] | rw [drop_cP] | rw [drop_cR]); rotate_left; assumption)); try simp only [go_sem, ↓reduceIte, Nat.reduceAdd, Nat.reduceEqDiff, Nat.reduceLT, Nat.reduceLeDiff, Nat.reduceBEq, Int.reduceEq, Int.reduceLT, Int.reduceLE]))
  | succ k ih =>
    intro i X hi
    have h85 := fun s => k85n ⟨w, es, ss.take (i + 1)⟩ (hG.take (i + 1)) s
    have hsl : sliceHi 3 (.vsl (cellsOf cS ss) (lenOf ss) .no) (i64 (Int.ofNat (i + 1))) = some (sl cS (ss.take (i + 1))) := sliceHi_at (f := cS) (sz := 3) (fun _ => rfl) ss (n := i + 1) (by omega) .no
    simp only [firstPUp]
    generalize ss.take (i + 1) = T at hsl h85 ⊢
    cases hP : possibleB ⟨w, es, T⟩ [] with
    | true =>
      obtain ⟨X', h'⟩ := ih (i + 1) (sl cS T) (by omega)
      refine ⟨X', ?_⟩
      simp only [if_true]
      rw [← h', lim_loop]
      generalize hR : lim tbl (.loop _ _ _ _) _ = R
      rw [hP] at h85
      (try simp only [go_sem, ↓reduceIte, Nat.reduceAdd, Nat.reduceEqDiff, Nat.reduceLT, Nat.reduceLeDiff, Nat.reduceBEq, Int.reduceEq, Int.reduceLT, Int.reduceLE]); (repeat ((first | rw [hsl] | simp only [h85] | (rw [lt_yes]; rotate_left; (first | omega | (simp [lenOf, app]; omega) | (simp only [lenOf]; omega))) | (rw [lt_no]; rotate_left; (first | omega | (simp [lenOf, app]; omega) | (simp only [lenOf]; omega))) | (rw [idxA_at]; rotate_left; (first | omega | (simp [lenOf, app]; omega) | (simp only [lenOf]; omega))) | (rw [wr_up]; rotate_left; (first | omega | (simp [lenOf, app]; omega) | (simp only [lenOf]; omega))) | ((first | rw [drop_cI] | rw [drop_cE] | rw [drop_cS] | rw [drop_cP] | rw [drop_cR]); rotate_left; assumption)); try simp only [go_sem, ↓reduceIte, Nat.reduceAdd, Nat.reduceEqDiff, Nat.reduceLT, Nat.reduceLeDiff, Nat.reduceBEq, Int.reduceEq, Int.reduceLT, Int.reduceLE]))
      exact hR
    | false =>
      refine ⟨sl cS T, ?_⟩
      simp only [Bool.false_eq_true, if_false]
      rw [lim_loop]
      rw [hP] at h85
      (try simp only [go_sem, ↓reduceIte, Nat.reduceAdd, Nat.reduceEqDiff, Nat.reduceLT, Nat.reduceLeDiff, Nat.reduceBEq, Int.reduceEq, Int.reduceLT, Int.reduceLE]); (repeat ((first | rw [hsl] | simp only [h85] | (rw [lt_yes]; rotate_left; (first | omega | (simp [lenOf, app]; omega) | (simp only [lenOf]; omega))) | (rw [lt_no]; rotate_left; (first | omega | (simp [lenOf, app]; omega) | (simp only [lenOf]; omega))) | (rw [idxA_at]; rotate_left; (first | omega | (simp [lenOf, app]; omega) | (simp only [lenOf]; omega))) | (rw [wr_up]; rotate_left; (first | omega | (simp [lenOf, app]; omega) | (simp only [lenOf]; omega))) | ((first | rw [drop_cI] | rw [drop_cE] | rw [drop_cS] | rw [drop_cP] | rw [drop_cR]); rotate_left; assumption)); try simp only [go_sem, ↓reduceIte, Nat.reduceAdd, Nat.reduceEqDiff, Nat.reduceLT, Nat.reduceLeDiff, Nat.reduceBEq, Int.reduceEq, Int.reduceLT, Int.reduceLE]))
def firstA (S : Slate) : Int := if checkSlate S ≠ 0 then 0 else match firstPUp S (lenOf S.ss) 0 with | none => 0 | some j => Int.ofNat j
def firstE (S : Slate) : Int := if checkSlate S ≠ 0 then checkSlate S else match firstPUp S (lenOf S.ss) 0 with | none => 7 | some _ => 0
theorem k40 (S : Slate) (s : St) : lim tbl (.call 40 [vSl S]) s = some (.ret, [.tup [i64 (firstA S), i64 (firstE S)]], s) := by
  have h63 := fun s => k63 S s
  rw [lim_call tbl_40]
  by_cases hc : checkSlate S = 0
  · have hG := good_of_check hc
    rw [hc] at h63
    obtain ⟨w, es, ss⟩ := S
    obtain ⟨N, O, p, q⟩ := s
    obtain ⟨X', h0⟩ := l40 w es ss hG N O p q ss.length 0 (sl cS ss) (by omega)
    rw [ofNat_0] at h0
    have hl : lenOf ss = ss.length := rfl
    cases hf : firstPUp ⟨w, es, ss⟩ ss.length 0 with
    | none =>
      have h1 : firstA ⟨w, es, ss⟩ = 0 := by simp [firstA, hl, hf]
      have h2 : firstE ⟨w, es, ss⟩ = 7 := by simp [firstE, hc, hl, hf]
      rw [h1, h2]
      rw [hf] at h0
      simp only at h0
      (try simp only [go_sem, ↓reduceIte, Nat.reduceAdd, Nat.reduceEqDiff, Nat.reduceLT, Nat.reduceLeDiff, Nat.reduceBEq, Int.reduceEq, Int.reduceLT, Int.reduceLE]); (repeat ((first | simp only [h63] | rw [h0] | (rw [lt_yes]; rotate_left; (first | omega | (simp [lenOf, app]; omega) | (simp only [lenOf]; omega))) | (rw [lt_no]; rotate_left; (first | omega | (simp [lenOf, app]; omega) | (simp only [lenOf]; omega))) | (rw [idxA_at]; rotate_left; (first | omega | (simp [lenOf, app]; omega) | (simp only [lenOf]; omega))) | (rw [wr_up]; rotate_left; (first | omega | (simp [lenOf, app]; omega) | (simp only [lenOf]; omega))) | ((first | rw [drop_cI] | rw [drop_cE] | rw [drop_cS] | rw [drop_cP] | rw [drop_cR]); rotate_left; assumption)); try simp only [go_sem, ↓reduceIte, Nat.reduceAdd, Nat.reduceEqDiff, Nat.reduceLT, Nat.reduceLeDiff, Nat.reduceBEq, Int.reduceEq, Int.reduceLT, Int.reduceLE]))
    | some j =>
      have h1 : firstA ⟨w, es, ss⟩ = Int.ofNat j := by simp [firstA, hc, hl, hf]
      have h2 : firstE ⟨w, es, ss⟩ = 0 := by simp [firstE, hc, hl, hf]
      rw [h1, h2]
      rw [hf] at h0
      simp only at h0
      (try simp only [go_sem, ↓reduceIte, Nat.reduceAdd, Nat.reduceEqDiff, Nat.reduceLT, Nat.reduceLeDiff, Nat.reduceBEq, Int.reduceEq, Int.reduceLT, Int.reduceLE]); (repeat ((first | simp only [h63] | rw [h0] | (rw [lt_yes]; rotate_left; (first | omega | (simp [lenOf, app]; omega) | (simp only [lenOf]; omega))) | (rw [lt_no]; rotate_left; (first | omega | (simp [lenOf, app]; omega) | (simp only [lenOf]; omega))) | (rw [idxA_at]; rotate_left; (first | omega | (simp [lenOf, app]; omega) | (simp only [lenOf]; omega))) | (rw [wr_up]; rotate_left; (first | omega | (simp [lenOf, app]; omega) | (simp only [lenOf]; omega))) | ((first | rw [drop_cI] | rw [drop_cE] | rw [drop_cS] | rw [drop_cP] | rw [drop_cR]); rotate_left; assumption)); try simp only [go_sem, ↓reduceIte, Nat.reduceAdd, Nat.reduceEqDiff, Nat.reduceLT, Nat.reduceLeDiff, Nat.reduceBEq, Int.reduceEq, Int.reduceLT, Int.reduceLE]))
  · have h1 : firstA S = 0 := by simp [firstA, hc]
    have h2 : firstE S = checkSlate S := by simp [firstE, hc]
    rw [h1, h2]
    generalize checkSlate S = c at h63 hc ⊢
    obtain ⟨w, es, ss⟩ := S
    obtain ⟨N, O, p, q⟩ := s
    (try simp only [go_sem, ↓reduceIte, Nat.reduceAdd, Nat.reduceEqDiff, Nat.reduceLT, Nat.reduceLeDiff, Nat.reduceBEq, Int.reduceEq, Int.reduceLT, Int.reduceLE]); (repeat ((first | simp only [h63] | rw [eq_n hc] | (rw [lt_yes]; rotate_left; (first | omega | (simp [lenOf, app]; omega) | (simp only [lenOf]; omega))) | (rw [lt_no]; rotate_left; (first | omega | (simp [lenOf, app]; omega) | (simp only [lenOf]; omega))) | (rw [idxA_at]; rotate_left; (first | omega | (simp [lenOf, app]; omega) | (simp only [lenOf]; omega))) | (rw [wr_up]; rotate_left; (first | omega | (simp [lenOf, app]; omega) | (simp only [lenOf]; omega))) | ((first | rw [drop_cI] | rw [drop_cE] | rw [drop_cS] | rw [drop_cP] | rw [drop_cR]); rotate_left; assumption)); try simp only [go_sem, ↓reduceIte, Nat.reduceAdd, Nat.reduceEqDiff, Nat.reduceLT, Nat.reduceLeDiff, Nat.reduceBEq, Int.reduceEq, Int.reduceLT, Int.reduceLE]))
end Go.Proofs.Ytlhfeiacigmliaa

/- The wash-house's soap: what the functions compute: the smallest set of sayings. -/
namespace Go.Proofs.Ytlhfeiacigmliaa
open Go
set_option maxRecDepth 10000
set_option linter.unusedSectionVars false

@[go_sem] theorem cells_beq_cE (l : List Ent) (n : Nat) (pm : Perm) : AVal.beq (.vsl (cellsOf cE l) n pm) (.vsl (cellsOf cE l) n pm) = true := by
  simp [AVal.beq, beqs_cells (f := cE) (fun a => by simp [cE, beqs, AVal.beq]) l]
@[go_sem] theorem cells_beq_cS (l : List Say) (n : Nat) (pm : Perm) : AVal.beq (.vsl (cellsOf cS l) n pm) (.vsl (cellsOf cS l) n pm) = true := by
  simp [AVal.beq, beqs_cells (f := cS) (fun a => by simp [cS, beqs, AVal.beq]) l]
@[go_sem] theorem beq_vref (a b : List AVal) : AVal.beq (.vref a) (.vref b) = beqs a b := by simp [AVal.beq]
@[go_sem] theorem beq_fn (n : Nat) (a b : List AVal) : AVal.beq (.fn (.func n) a b) (.fn (.func n) a b) = (beqs a a && beqs b b) := by simp [AVal.beq, fnEq]

/-- More rooms, and none that was is different. -/
def Ro (p : Nat) (q : Nat → Nat) (p' : Nat) (q' : Nat → Nat) : Prop := p ≤ p' ∧ ∀ x, x < p → q' x = q x
theorem Ro.refl (p : Nat) (q : Nat → Nat) : Ro p q p q := ⟨Nat.le_refl _, fun _ _ => rfl⟩
theorem Ro.trans {p : Nat} {q : Nat → Nat} {p1 : Nat} {q1 : Nat → Nat} {p2 : Nat} {q2 : Nat → Nat} (h : Ro p q p1 q1) (h' : Ro p1 q1 p2 q2) : Ro p q p2 q2 :=
  ⟨Nat.le_trans h.1 h'.1, fun x hx => by rw [h'.2 x (by have := h.1; omega), h.2 x hx]⟩
theorem Ro.room (p : Nat) (q : Nat → Nat) (k : Nat) : Ro p q (roomP p k) (roomC p q k) :=
  ⟨by unfold roomP; split <;> omega, fun x hx => roomC_old p q k x hx⟩
theorem Ro.old {p : Nat} {q : Nat → Nat} {p' : Nat} {q' : Nat → Nat} (h : Ro p q p' q') {N0 : Nat} {O0 : List AObj} {N : Nat} {O : List AObj} (h' : OldO N0 O0 N O) : Ytlhfeiacigmliaa.old ⟨N0, O0, p, q⟩ ⟨N, O, p', q'⟩ = true := by
  simp only [Ytlhfeiacigmliaa.old, decide_eq_true_eq]
  exact ⟨h'.1, h'.2, h.2⟩

/-- A list's copy with one more. -/
theorem k87 (r : Nat) (L : List Int) (h : L.length < 1000000) (N : Nat) (O : List AObj) (p : Nat) (q : Nat → Nat) : lim tbl (.call 87 [ownSl cI r L]) ⟨N, O, p, q⟩ = some (.ret, [ownSl cI p L], ⟨N, O, roomP p (lenOf L), roomC p q (lenOf L)⟩) := by
  rw [lim_call tbl_87]
  cases L with
  | nil =>
    rw [ownSl_nil, ownSl_nil, show lenOf ([] : List Int) = 0 from rfl, roomP_0, roomC_0]
    (try simp only [go_sem, ↓reduceIte, Nat.reduceAdd, Nat.reduceEqDiff, Nat.reduceLT, Nat.reduceLeDiff, Nat.reduceBEq, Int.reduceEq, Int.reduceLT, Int.reduceLE]); (repeat ((first | (rw [lt_yes]; rotate_left; (first | omega | (simp [lenOf, app]; omega) | (simp only [lenOf]; omega))) | (rw [lt_no]; rotate_left; (first | omega | (simp [lenOf, app]; omega) | (simp only [lenOf]; omega))) | (rw [idxA_at]; rotate_left; (first | omega | (simp [lenOf, app]; omega) | (simp only [lenOf]; omega))) | (rw [wr_up]; rotate_left; (first | omega | (simp [lenOf, app]; omega) | (simp only [lenOf]; omega))) | ((first | rw [drop_cI] | rw [drop_cE] | rw [drop_cS] | rw [drop_cP] | rw [drop_cR]); rotate_left; assumption)); try simp only [go_sem, ↓reduceIte, Nat.reduceAdd, Nat.reduceEqDiff, Nat.reduceLT, Nat.reduceLeDiff, Nat.reduceBEq, Int.reduceEq, Int.reduceLT, Int.reduceLE]))
  | cons a L =>
    have h0 : (a :: L).length ≠ 0 := by simp
    have hl : (cellsOf cI (a :: L)).length = (a :: L).length * 1 := cells_length (sz := 1) (fun _ => rfl) _
    have he : ∀ x : AVal, x = ownSl cI r (a :: L) → elemsA ⟨N, O, p, q⟩ 1 x = some ((a :: L).length, cellsOf cI (a :: L)) := by
      rintro x rfl
      unfold ownSl; rw [if_neg h0]; simp only [elemsA]; rw [if_pos hl]
    have ha := append_copy' (f := cI) (sz := 1) 8 p q N O (ownSl cI r (a :: L)) (a :: L) (he _ rfl) (by omega) (by omega)
    have hn : eqNilA 1 (ownSl cI r (a :: L)) .sl0 = some false := by
      unfold ownSl; rw [if_neg h0]; simp [eqNilA]
    have hc : copySl cI p (a :: L) = ownSl cI p (a :: L) := by unfold copySl ownSl; rw [if_neg h0, if_neg h0]
    rw [hc] at ha
    generalize a :: L = B at ha hn
    (try simp only [go_sem, ↓reduceIte, Nat.reduceAdd, Nat.reduceEqDiff, Nat.reduceLT, Nat.reduceLeDiff, Nat.reduceBEq, Int.reduceEq, Int.reduceLT, Int.reduceLE]); (repeat ((first | rw [hn] | rw [ha] | (rw [lt_yes]; rotate_left; (first | omega | (simp [lenOf, app]; omega) | (simp only [lenOf]; omega))) | (rw [lt_no]; rotate_left; (first | omega | (simp [lenOf, app]; omega) | (simp only [lenOf]; omega))) | (rw [idxA_at]; rotate_left; (first | omega | (simp [lenOf, app]; omega) | (simp only [lenOf]; omega))) | (rw [wr_up]; rotate_left; (first | omega | (simp [lenOf, app]; omega) | (simp only [lenOf]; omega))) | ((first | rw [drop_cI] | rw [drop_cE] | rw [drop_cS] | rw [drop_cP] | rw [drop_cR]); rotate_left; assumption)); try simp only [go_sem, ↓reduceIte, Nat.reduceAdd, Nat.reduceEqDiff, Nat.reduceLT, Nat.reduceLeDiff, Nat.reduceBEq, Int.reduceEq, Int.reduceLT, Int.reduceLE]))
/-- The lists of so many sayings from one on, in the program's order. -/
def combs (n : Nat) : Nat → Nat → List (List Int)
  | 0, _ => [[]]
  | m + 1, f => (List.range' f (n - m - f)).flatMap fun i => (combs n m (i + 1)).map (Int.ofNat i :: ·)
/-- The tries: until one is possible; what was tried last. -/
def tried (S : Slate) (l : List (List Int)) (x : List Int) : List Int × Bool := iterL (fun _ L => !possibleB S L) (fun _ L => L) l x
def leaveFn (w : Int) (es : List Ent) (ss : List Say) (cf cl : Nat) : AObj := .cells [.fn (.func 86) [] [.ptr cf 0, .vref [i64 w, sl cE es, sl cS ss], .ptr cl 0]]
section
variable (w : Int) (es : List Ent) (ss : List Say) (hG : Good ⟨w, es, ss⟩) (cf cl : Nat) (hne : cf ≠ cl) (M : Nat)
include hG hne
/-- What the call of leave does. -/
def LeftOut (m f : Nat) (L : List Int) (r : Nat) (x : List Int) (Q : List AObj) (p : Nat) (q : Nat → Nat) (l : List (List Int)) : Prop :=
  ∃ Q' p' q' r', lim tbl (.call 86 [ownSl cI r L, i64 (Int.ofNat f), i64 (Int.ofNat m), .ptr cf 0, .vref [i64 w, sl cE es, sl cS ss], .ptr cl 0]) ⟨M, Q, p, q⟩
      = some (.ret, [.bool (!(tried ⟨w, es, ss⟩ l x).2)], ⟨M, Q', p', q'⟩) ∧
    gO M Q' cf = some (.cells [ownSl cI r' (tried ⟨w, es, ss⟩ l x).1]) ∧ gO M Q' cl = some (leaveFn w es ss cf cl) ∧ Ro p q p' q' ∧ ∀ N0 O0, OldO N0 O0 M Q → N0 ≤ cf → OldO N0 O0 M Q'
theorem l86 (m : Nat) (L : List Int) (hL : L.length < 1000)
    (ih : ∀ f r L' x r0 Q p q, L'.length ≤ L.length + 1 → gO M Q cf = some (.cells [ownSl cI r0 x]) → gO M Q cl = some (leaveFn w es ss cf cl) → f ≤ ss.length → LeftOut w es ss cf cl M m f L' r x Q p q ((combs ss.length m f).map (L' ++ ·))) :
    ∀ (k f : Nat) (r : Nat) (x : List Int) (r0 : Nat) (Q : List AObj) (p : Nat) (q : Nat → Nat), k = ss.length - m - f → m + 1 ≤ ss.length → f ≤ ss.length → gO M Q cf = some (.cells [ownSl cI r0 x]) → gO M Q cl = some (leaveFn w es ss cf cl) →
    ∃ Q' p' q' r', (lim tbl (.loop a86_l0 38 ⟨[0, 2, 4, 5, 10], [], [9]⟩ [ownSl cI r L, i64 (Int.ofNat (m + 1)), .vref [i64 w, sl cE es, sl cS ss], .ptr cl 0, i64 (Int.ofNat f)]) ⟨M, Q, p, q⟩
      = if (tried ⟨w, es, ss⟩ ((List.range' f k).flatMap fun i => (combs ss.length m (i + 1)).map (L ++ Int.ofNat i :: ·)) x).2 then some (.exit 0, [], ⟨M, Q', p', q'⟩) else some (.ret, [.bool true], ⟨M, Q', p', q'⟩)) ∧
    gO M Q' cf = some (.cells [ownSl cI r' (tried ⟨w, es, ss⟩ ((List.range' f k).flatMap fun i => (combs ss.length m (i + 1)).map (L ++ Int.ofNat i :: ·)) x).1]) ∧ gO M Q' cl = some (leaveFn w es ss cf cl) ∧ Ro p q p' q' ∧ ∀ N0 O0, OldO N0 O0 M Q → N0 ≤ cf → OldO N0 O0 M Q' := by
  have hs5 := hG.s5
  simp only at hs5
  intro k
  induction k with
  | zero =>
    intro f r x r0 Q p q hk hm hf h1 h2
    refine ⟨Q, p, q, r0, ?_, h1, h2, Ro.refl .., fun _ _ h _ => h⟩
    have hw : wr .i64 (Int.sub (Int.ofNat (lenOf ss)) (Int.ofNat (m + 1))) = Int.ofNat (ss.length - (m + 1)) := by
      rw [fold_sub, wr_in] <;> simp [lenOf] <;> omega
    rw [lim_loop]
    simp only [List.range'_zero, List.flatMap_nil, tried, iterL, if_true]
    by_cases hc : f ≤ ss.length - (m + 1)
    · exfalso; omega
    · (try simp only [go_sem, ↓reduceIte, Nat.reduceAdd, Nat.reduceEqDiff, Nat.reduceLT, Nat.reduceLeDiff, Nat.reduceBEq, Int.reduceEq, Int.reduceLT, Int.reduceLE]); (repeat ((first | rw [hw] | (rw [le_no]; rotate_left; (omega)) | (rw [lt_yes]; rotate_left; (first | omega | (simp [lenOf, app]; omega) | (simp only [lenOf]; omega))) | (rw [lt_no]; rotate_left; (first | omega | (simp [lenOf, app]; omega) | (simp only [lenOf]; omega))) | (rw [idxA_at]; rotate_left; (first | omega | (simp [lenOf, app]; omega) | (simp only [lenOf]; omega))) | (rw [wr_up]; rotate_left; (first | omega | (simp [lenOf, app]; omega) | (simp only [lenOf]; omega))) | ((first | rw [drop_cI] | rw [drop_cE] | rw [drop_cS] | rw [drop_cP] | rw [drop_cR]); rotate_left; assumption)); try simp only [go_sem, ↓reduceIte, Nat.reduceAdd, Nat.reduceEqDiff, Nat.reduceLT, Nat.reduceLeDiff, Nat.reduceBEq, Int.reduceEq, Int.reduceLT, Int.reduceLE]))
  | succ k ihk =>
    intro f r x r0 Q p q hk hm hf h1 h2
    have hw : wr .i64 (Int.sub (Int.ofNat (lenOf ss)) (Int.ofNat (m + 1))) = Int.ofNat (ss.length - (m + 1)) := by
      rw [fold_sub, wr_in] <;> simp [lenOf] <;> omega
    have hw2 : wr .i64 (Int.sub (Int.ofNat (m + 1)) 1) = Int.ofNat m := by
      rw [fold_sub, wr_in] <;> simp <;> omega
    have hcl := k87 r L (by omega) M Q p q
    have happ := append_own (f := cI) (sz := 1) (fun _ => rfl) 8 p q M Q L (Int.ofNat f) [i64 (Int.ofNat f)] rfl .full (by omega) (by omega)
    obtain ⟨Q1, p1, q1, r1, hc, g1, g2, g3, g4⟩ := ih (f + 1) p (app L [Int.ofNat f]) x r0 Q (roomP p (lenOf (app L [Int.ofNat f]))) (roomC p q (lenOf (app L [Int.ofNat f]))) (by simp [app]) h1 h2 (by omega)
    have hmap : ((combs ss.length m (f + 1)).map (app L [Int.ofNat f] ++ ·)) = (combs ss.length m (f + 1)).map (L ++ Int.ofNat f :: ·) := by
      congr 1; funext l; simp [app]
    rw [hmap] at hc g1
    rw [List.range'_succ]
    simp only [List.flatMap_cons, tried, iterL_append]
    simp only [tried] at hc g1
    generalize iterL (fun _ L => !possibleB ⟨w, es, ss⟩ L) (fun _ L => L) ((combs ss.length m (f + 1)).map (L ++ Int.ofNat f :: ·)) x = X at hc g1
    obtain ⟨y, b⟩ := X
    simp only at hc g1
    have e1 : St.get ⟨M, Q, p, q⟩ cl = some (leaveFn w es ss cf cl) := h2
    have e2 : St.get ⟨M, Q, roomP p (lenOf L), roomC p q (lenOf L)⟩ cl = some (leaveFn w es ss cf cl) := h2
    have e3 : St.get ⟨M, Q, roomP p (lenOf (app L [Int.ofNat f])), roomC p q (lenOf (app L [Int.ofNat f]))⟩ cl = some (leaveFn w es ss cf cl) := h2
    unfold leaveFn at e1 e2 e3
    cases b with
    | true =>
      simp only [if_true]
      obtain ⟨Q2, p2, q2, r2, hl, g5, g6, g7, g8⟩ := ihk (f + 1) r y r1 Q1 p1 q1 (by omega) hm (by omega) g1 g2
      refine ⟨Q2, p2, q2, r2, ?_, g5, g6, ((Ro.room ..).trans g3).trans g7, fun N0 O0 h h' => g8 N0 O0 (g4 N0 O0 h h') h'⟩
      refine Eq.trans ?_ hl
      rw [lim_loop]
      generalize hR : lim tbl (.loop _ _ _ _) _ = R
      (try simp only [go_sem, ↓reduceIte, Nat.reduceAdd, Nat.reduceEqDiff, Nat.reduceLT, Nat.reduceLeDiff, Nat.reduceBEq, Int.reduceEq, Int.reduceLT, Int.reduceLE]); (repeat ((first | rw [hw] | (rw [le_yes]; rotate_left; (omega)) | rw [e1] | rw [hcl] | rw [happ] | rw [hw2] | rw [hc] | rw [e2] | rw [e3] | (rw [lt_yes]; rotate_left; (first | omega | (simp [lenOf, app]; omega) | (simp only [lenOf]; omega))) | (rw [lt_no]; rotate_left; (first | omega | (simp [lenOf, app]; omega) | (simp only [lenOf]; omega))) | (rw [idxA_at]; rotate_left; (first | omega | (simp [lenOf, app]; omega) | (simp only [lenOf]; omega))) | (rw [wr_up]; rotate_left; (first | omega | (simp [lenOf, app]; omega) | (simp only [lenOf]; omega))) | ((first | rw [drop_cI] | rw [drop_cE] | rw [drop_cS] | rw [drop_cP] | rw [drop_cR]); rotate_left; assumption)); try simp only [go_sem, ↓reduceIte, Nat.reduceAdd, Nat.reduceEqDiff, Nat.reduceLT, Nat.reduceLeDiff, Nat.reduceBEq, Int.reduceEq, Int.reduceLT, Int.reduceLE]))
      exact hR
    | false =>
      simp only [Bool.false_eq_true, if_false]
      refine ⟨Q1, p1, q1, r1, ?_, g1, g2, (Ro.room ..).trans g3, g4⟩
      rw [lim_loop]
      (try simp only [go_sem, ↓reduceIte, Nat.reduceAdd, Nat.reduceEqDiff, Nat.reduceLT, Nat.reduceLeDiff, Nat.reduceBEq, Int.reduceEq, Int.reduceLT, Int.reduceLE]); (repeat ((first | rw [hw] | (rw [le_yes]; rotate_left; (omega)) | rw [e1] | rw [hcl] | rw [happ] | rw [hw2] | rw [hc] | rw [e2] | rw [e3] | (rw [lt_yes]; rotate_left; (first | omega | (simp [lenOf, app]; omega) | (simp only [lenOf]; omega))) | (rw [lt_no]; rotate_left; (first | omega | (simp [lenOf, app]; omega) | (simp only [lenOf]; omega))) | (rw [idxA_at]; rotate_left; (first | omega | (simp [lenOf, app]; omega) | (simp only [lenOf]; omega))) | (rw [wr_up]; rotate_left; (first | omega | (simp [lenOf, app]; omega) | (simp only [lenOf]; omega))) | ((first | rw [drop_cI] | rw [drop_cE] | rw [drop_cS] | rw [drop_cP] | rw [drop_cR]); rotate_left; assumption)); try simp only [go_sem, ↓reduceIte, Nat.reduceAdd, Nat.reduceEqDiff, Nat.reduceLT, Nat.reduceLeDiff, Nat.reduceBEq, Int.reduceEq, Int.reduceLT, Int.reduceLE]))
theorem k85o (S : Slate) (out : List Int) (hG : Good S) (ho : out.length < 1000000) (r : Nat) (s : St) : lim tbl (.call 85 [vSl S, ownSl cI r out]) s = some (.ret, [.bool (possibleB S out)], s) := by
  have h := k85 S out hG ho s
  have e : norms [vSl S, ownSl cI r out] = norms [vSl S, sl cI out] := by simp only [norms_cons, norm_own_cI, norm_vsl, norms_cI]
  rw [lim_call tbl_85] at h ⊢
  rw [show a85.gc = some 1 from rfl, frameV_some] at h ⊢
  rw [e]; exact h
theorem k86 : ∀ (m : Nat) (f r : Nat) (L x : List Int) (r0 : Nat) (Q : List AObj) (p : Nat) (q : Nat → Nat), L.length + m < 1000 → gO M Q cf = some (.cells [ownSl cI r0 x]) → gO M Q cl = some (leaveFn w es ss cf cl) → f ≤ ss.length → m ≤ ss.length →
    LeftOut w es ss cf cl M m f L r x Q p q ((combs ss.length m f).map (L ++ ·)) := by
  have hs5 := hG.s5
  simp only at hs5
  intro m
  induction m with
  | zero =>
    intro f r L x r0 Q p q hL h1 h2 hf hm
    have h85 := fun s => k85o w es ss hG cf cl hne ⟨w, es, ss⟩ L hG (by omega) r s
    have e1 : St.get ⟨M, Q, p, q⟩ cf = some (.cells [ownSl cI r0 x]) := h1
    obtain ⟨Q1, s1, _, g1, g2, g3⟩ := gO_set h1 (.cells [ownSl cI r L])
    refine ⟨Q1, p, q, r, ?_, ?_, by rw [g2 _ (Ne.symm hne)]; exact h2, Ro.refl .., g3⟩
    · have ht : (tried ⟨w, es, ss⟩ ((combs ss.length 0 f).map (L ++ ·)) x).2 = !possibleB ⟨w, es, ss⟩ L := by
        simp only [combs, List.map_cons, List.map_nil, List.append_nil, tried, iterL]
        cases possibleB ⟨w, es, ss⟩ L <;> rfl
      rw [ht, Bool.not_not, lim_call tbl_86]
      generalize possibleB ⟨w, es, ss⟩ L = b at h85
      (try simp only [go_sem, ↓reduceIte, Nat.reduceAdd, Nat.reduceEqDiff, Nat.reduceLT, Nat.reduceLeDiff, Nat.reduceBEq, Int.reduceEq, Int.reduceLT, Int.reduceLE]); (repeat ((first | rw [e1] | rw [s1] | simp only [h85] | (rw [lt_yes]; rotate_left; (first | omega | (simp [lenOf, app]; omega) | (simp only [lenOf]; omega))) | (rw [lt_no]; rotate_left; (first | omega | (simp [lenOf, app]; omega) | (simp only [lenOf]; omega))) | (rw [idxA_at]; rotate_left; (first | omega | (simp [lenOf, app]; omega) | (simp only [lenOf]; omega))) | (rw [wr_up]; rotate_left; (first | omega | (simp [lenOf, app]; omega) | (simp only [lenOf]; omega))) | ((first | rw [drop_cI] | rw [drop_cE] | rw [drop_cS] | rw [drop_cP] | rw [drop_cR]); rotate_left; assumption)); try simp only [go_sem, ↓reduceIte, Nat.reduceAdd, Nat.reduceEqDiff, Nat.reduceLT, Nat.reduceLeDiff, Nat.reduceBEq, Int.reduceEq, Int.reduceLT, Int.reduceLE]))
    · have ht : (tried ⟨w, es, ss⟩ ((combs ss.length 0 f).map (L ++ ·)) x).1 = L := by
        simp only [combs, List.map_cons, List.map_nil, List.append_nil, tried, iterL]
        cases possibleB ⟨w, es, ss⟩ L <;> rfl
      rw [ht]; exact g1
  | succ m ih =>
    intro f r L x r0 Q p q hL h1 h2 hf hm
    obtain ⟨Q', p', q', r', hl, g1, g2, g3, g4⟩ := l86 w es ss hG cf cl hne M m L (by omega) (fun f r L' x r0 Q p q hL' h1 h2 hf => ih f r L' x r0 Q p q (by omega) h1 h2 hf (by omega))
      (ss.length - m - f) f r x r0 Q p q rfl hm hf h1 h2
    have hc : ((combs ss.length (m + 1) f).map (L ++ ·)) = (List.range' f (ss.length - m - f)).flatMap fun i => (combs ss.length m (i + 1)).map (L ++ Int.ofNat i :: ·) := by
      rw [combs, List.map_flatMap]
      simp only [List.map_map]; rfl
    refine ⟨Q', p', q', r', ?_, by rw [hc]; exact g1, g2, g3, g4⟩
    rw [hc]
    generalize (tried ⟨w, es, ss⟩ ((List.range' f (ss.length - m - f)).flatMap fun i => (combs ss.length m (i + 1)).map (L ++ Int.ofNat i :: ·)) x).2 = b at hl
    have hz : ¬ Int.ofNat (m + 1) = 0 := by simp; omega
    rw [lim_call tbl_86]
    cases b with
    | true =>
      simp only [if_true] at hl
      (try simp only [go_sem, ↓reduceIte, Nat.reduceAdd, Nat.reduceEqDiff, Nat.reduceLT, Nat.reduceLeDiff, Nat.reduceBEq, Int.reduceEq, Int.reduceLT, Int.reduceLE]); (repeat ((first | rw [eq_n hz] | rw [hl] | (rw [lt_yes]; rotate_left; (first | omega | (simp [lenOf, app]; omega) | (simp only [lenOf]; omega))) | (rw [lt_no]; rotate_left; (first | omega | (simp [lenOf, app]; omega) | (simp only [lenOf]; omega))) | (rw [idxA_at]; rotate_left; (first | omega | (simp [lenOf, app]; omega) | (simp only [lenOf]; omega))) | (rw [wr_up]; rotate_left; (first | omega | (simp [lenOf, app]; omega) | (simp only [lenOf]; omega))) | ((first | rw [drop_cI] | rw [drop_cE] | rw [drop_cS] | rw [drop_cP] | rw [drop_cR]); rotate_left; assumption)); try simp only [go_sem, ↓reduceIte, Nat.reduceAdd, Nat.reduceEqDiff, Nat.reduceLT, Nat.reduceLeDiff, Nat.reduceBEq, Int.reduceEq, Int.reduceLT, Int.reduceLE]))
    | false =>
      simp only [Bool.false_eq_true, if_false] at hl
      (try simp only [go_sem, ↓reduceIte, Nat.reduceAdd, Nat.reduceEqDiff, Nat.reduceLT, Nat.reduceLeDiff, Nat.reduceBEq, Int.reduceEq, Int.reduceLT, Int.reduceLE]); (repeat ((first | rw [eq_n hz] | rw [hl] | (rw [lt_yes]; rotate_left; (first | omega | (simp [lenOf, app]; omega) | (simp only [lenOf]; omega))) | (rw [lt_no]; rotate_left; (first | omega | (simp [lenOf, app]; omega) | (simp only [lenOf]; omega))) | (rw [idxA_at]; rotate_left; (first | omega | (simp [lenOf, app]; omega) | (simp only [lenOf]; omega))) | (rw [wr_up]; rotate_left; (first | omega | (simp [lenOf, app]; omega) | (simp only [lenOf]; omega))) | ((first | rw [drop_cI] | rw [drop_cE] | rw [drop_cS] | rw [drop_cP] | rw [drop_cR]); rotate_left; assumption)); try simp only [go_sem, ↓reduceIte, Nat.reduceAdd, Nat.reduceEqDiff, Nat.reduceLT, Nat.reduceLeDiff, Nat.reduceBEq, Int.reduceEq, Int.reduceLT, Int.reduceLE]))
theorem l41 (N0 : Nat) (O0 : List AObj) (h0 : N0 ≤ cf) : ∀ (k m : Nat) (x : List Int) (r0 : Nat) (Q : List AObj) (p : Nat) (q : Nat → Nat), m + k = ss.length + 1 → OldO N0 O0 M Q → gO M Q cf = some (.cells [ownSl cI r0 x]) → gO M Q cl = some (leaveFn w es ss cf cl) →
    ∃ Q' p' q' r', lim tbl (.loop a41_l0 26 ⟨[5, 6, 17, 18], [5], []⟩ [.ptr cf 0, .ptr cl 0, i64 (Int.ofNat (ss.length + 1)), i64 (Int.ofNat m)]) ⟨M, Q, p, q⟩ = some (.exit 0, [.ptr cf 0], ⟨M, Q', p', q'⟩) ∧
      gO M Q' cf = some (.cells [ownSl cI r' (tried ⟨w, es, ss⟩ ((List.range' m k).flatMap fun j => combs ss.length j 0) x).1]) ∧ Ro p q p' q' ∧ OldO N0 O0 M Q' := by
  have hs5 := hG.s5
  simp only at hs5
  intro k
  induction k with
  | zero =>
    intro m x r0 Q p q hm hO h1 h2
    refine ⟨Q, p, q, r0, ?_, h1, Ro.refl .., hO⟩
    rw [lim_loop]
    (try simp only [go_sem, ↓reduceIte, Nat.reduceAdd, Nat.reduceEqDiff, Nat.reduceLT, Nat.reduceLeDiff, Nat.reduceBEq, Int.reduceEq, Int.reduceLT, Int.reduceLE]); (repeat ((first | (rw [lt_yes]; rotate_left; (first | omega | (simp [lenOf, app]; omega) | (simp only [lenOf]; omega))) | (rw [lt_no]; rotate_left; (first | omega | (simp [lenOf, app]; omega) | (simp only [lenOf]; omega))) | (rw [idxA_at]; rotate_left; (first | omega | (simp [lenOf, app]; omega) | (simp only [lenOf]; omega))) | (rw [wr_up]; rotate_left; (first | omega | (simp [lenOf, app]; omega) | (simp only [lenOf]; omega))) | ((first | rw [drop_cI] | rw [drop_cE] | rw [drop_cS] | rw [drop_cP] | rw [drop_cR]); rotate_left; assumption)); try simp only [go_sem, ↓reduceIte, Nat.reduceAdd, Nat.reduceEqDiff, Nat.reduceLT, Nat.reduceLeDiff, Nat.reduceBEq, Int.reduceEq, Int.reduceLT, Int.reduceLE]))
  | succ k ihk =>
    intro m x r0 Q p q hm hO h1 h2
    obtain ⟨Q1, p1, q1, r1, hc, g1, g2, g3, g4⟩ := k86 w es ss hG cf cl hne M m 0 0 [] x r0 Q p q (by simp; omega) h1 h2 (by omega) (by omega)
    have hid : ((combs ss.length m 0).map (([] : List Int) ++ ·)) = combs ss.length m 0 := by simp
    rw [hid] at hc g1
    rw [ownSl_nil, ofNat_0] at hc
    rw [List.range'_succ]
    simp only [List.flatMap_cons, tried, iterL_append]
    simp only [tried] at hc g1
    generalize iterL (fun _ L => !possibleB ⟨w, es, ss⟩ L) (fun _ L => L) (combs ss.length m 0) x = X at hc g1
    obtain ⟨y, b⟩ := X
    simp only at hc g1
    have e1 : St.get ⟨M, Q, p, q⟩ cl = some (leaveFn w es ss cf cl) := h2
    unfold leaveFn at e1
    cases b with
    | true =>
      simp only [if_true]
      obtain ⟨Q2, p2, q2, r2, hl, g5, g7, g8⟩ := ihk (m + 1) y r1 Q1 p1 q1 (by omega) (g4 _ _ hO h0) g1 g2
      refine ⟨Q2, p2, q2, r2, ?_, g5, g3.trans g7, g8⟩
      rw [← hl, lim_loop]
      generalize hR : lim tbl (.loop _ _ _ _) _ = R
      (try simp only [go_sem, ↓reduceIte, Nat.reduceAdd, Nat.reduceEqDiff, Nat.reduceLT, Nat.reduceLeDiff, Nat.reduceBEq, Int.reduceEq, Int.reduceLT, Int.reduceLE]); (repeat ((first | rw [e1] | rw [hc] | (rw [lt_yes]; rotate_left; (first | omega | (simp [lenOf, app]; omega) | (simp only [lenOf]; omega))) | (rw [lt_no]; rotate_left; (first | omega | (simp [lenOf, app]; omega) | (simp only [lenOf]; omega))) | (rw [idxA_at]; rotate_left; (first | omega | (simp [lenOf, app]; omega) | (simp only [lenOf]; omega))) | (rw [wr_up]; rotate_left; (first | omega | (simp [lenOf, app]; omega) | (simp only [lenOf]; omega))) | ((first | rw [drop_cI] | rw [drop_cE] | rw [drop_cS] | rw [drop_cP] | rw [drop_cR]); rotate_left; assumption)); try simp only [go_sem, ↓reduceIte, Nat.reduceAdd, Nat.reduceEqDiff, Nat.reduceLT, Nat.reduceLeDiff, Nat.reduceBEq, Int.reduceEq, Int.reduceLT, Int.reduceLE]))
      exact hR
    | false =>
      simp only [Bool.false_eq_true, if_false]
      refine ⟨Q1, p1, q1, r1, ?_, g1, g3, g4 _ _ hO h0⟩
      rw [lim_loop]
      (try simp only [go_sem, ↓reduceIte, Nat.reduceAdd, Nat.reduceEqDiff, Nat.reduceLT, Nat.reduceLeDiff, Nat.reduceBEq, Int.reduceEq, Int.reduceLT, Int.reduceLE]); (repeat ((first | rw [e1] | rw [hc] | (rw [lt_yes]; rotate_left; (first | omega | (simp [lenOf, app]; omega) | (simp only [lenOf]; omega))) | (rw [lt_no]; rotate_left; (first | omega | (simp [lenOf, app]; omega) | (simp only [lenOf]; omega))) | (rw [idxA_at]; rotate_left; (first | omega | (simp [lenOf, app]; omega) | (simp only [lenOf]; omega))) | (rw [wr_up]; rotate_left; (first | omega | (simp [lenOf, app]; omega) | (simp only [lenOf]; omega))) | ((first | rw [drop_cI] | rw [drop_cE] | rw [drop_cS] | rw [drop_cP] | rw [drop_cR]); rotate_left; assumption)); try simp only [go_sem, ↓reduceIte, Nat.reduceAdd, Nat.reduceEqDiff, Nat.reduceLT, Nat.reduceLeDiff, Nat.reduceBEq, Int.reduceEq, Int.reduceLT, Int.reduceLE]))
end
def leaveL (S : Slate) : List Int := if checkSlate S ≠ 0 then [] else (tried S ((List.range' 0 (S.ss.length + 1)).flatMap fun j => combs S.ss.length j 0) []).1
theorem k41 (S : Slate) (s : St) : lim tbl (.call 41 [vSl S]) s = some (.ret, [.tup [sl cI (leaveL S), i64 (checkSlate S)]], s) := by
  have h63 := fun s => k63 S s
  rw [lim_call tbl_41]
  by_cases hc : checkSlate S = 0
  · have hG := good_of_check hc
    have h1 : leaveL S = (tried S ((List.range' 0 (S.ss.length + 1)).flatMap fun j => combs S.ss.length j 0) []).1 := by simp [leaveL, hc]
    rw [h1, hc]
    rw [hc] at h63
    obtain ⟨w, es, ss⟩ := S
    obtain ⟨N, O, p, q⟩ := s
    have hs5 := hG.s5
    simp only at hs5
    obtain ⟨Q', p', q', r', hl, g1, g2, g3⟩ := l41 w es ss hG N (na N 1) (by simp [na]) (na (na N 1) 1) N O (Nat.le_refl _) (ss.length + 1) 0 [] 0 (leaveFn w es ss N (na N 1) :: .cells [.sl0] :: O) p q (by omega)
      (((OldO.refl N O).push _).push _) (gO_push (gO_new ..) _) (gO_new ..)
    unfold leaveFn at hl
    rw [ofNat_0] at hl
    have hw : wr .i64 (Int.add (Int.ofNat (lenOf ss)) 1) = Int.ofNat (ss.length + 1) := wr_up (by simp only [lenOf]; omega)
    have e1 : St.get ⟨na (na N 1) 1, Q', p', q'⟩ N = some (.cells [ownSl cI r' (tried ⟨w, es, ss⟩ ((List.range' 0 (ss.length + 1)).flatMap fun j => combs ss.length j 0) []).1]) := g1
    have ho := g2.old g3
    simp only
    generalize (tried ⟨w, es, ss⟩ ((List.range' 0 (ss.length + 1)).flatMap fun j => combs ss.length j 0) []).1 = A at e1 ⊢
    generalize ss.length + 1 = n at hl hw
    (try simp only [go_sem, ↓reduceIte, Nat.reduceAdd, Nat.reduceEqDiff, Nat.reduceLT, Nat.reduceLeDiff, Nat.reduceBEq, Int.reduceEq, Int.reduceLT, Int.reduceLE]); (repeat ((first | simp only [h63] | rw [hw] | rw [hl] | rw [e1] | rw [ho] | (rw [lt_yes]; rotate_left; (first | omega | (simp [lenOf, app]; omega) | (simp only [lenOf]; omega))) | (rw [lt_no]; rotate_left; (first | omega | (simp [lenOf, app]; omega) | (simp only [lenOf]; omega))) | (rw [idxA_at]; rotate_left; (first | omega | (simp [lenOf, app]; omega) | (simp only [lenOf]; omega))) | (rw [wr_up]; rotate_left; (first | omega | (simp [lenOf, app]; omega) | (simp only [lenOf]; omega))) | ((first | rw [drop_cI] | rw [drop_cE] | rw [drop_cS] | rw [drop_cP] | rw [drop_cR]); rotate_left; assumption)); try simp only [go_sem, ↓reduceIte, Nat.reduceAdd, Nat.reduceEqDiff, Nat.reduceLT, Nat.reduceLeDiff, Nat.reduceBEq, Int.reduceEq, Int.reduceLT, Int.reduceLE]))
  · have h1 : leaveL S = [] := by simp [leaveL, hc]
    rw [h1]
    generalize checkSlate S = c at h63 hc ⊢
    obtain ⟨w, es, ss⟩ := S
    obtain ⟨N, O, p, q⟩ := s
    (try simp only [go_sem, ↓reduceIte, Nat.reduceAdd, Nat.reduceEqDiff, Nat.reduceLT, Nat.reduceLeDiff, Nat.reduceBEq, Int.reduceEq, Int.reduceLT, Int.reduceLE]); (repeat ((first | simp only [h63] | rw [eq_n hc] | (rw [lt_yes]; rotate_left; (first | omega | (simp [lenOf, app]; omega) | (simp only [lenOf]; omega))) | (rw [lt_no]; rotate_left; (first | omega | (simp [lenOf, app]; omega) | (simp only [lenOf]; omega))) | (rw [idxA_at]; rotate_left; (first | omega | (simp [lenOf, app]; omega) | (simp only [lenOf]; omega))) | (rw [wr_up]; rotate_left; (first | omega | (simp [lenOf, app]; omega) | (simp only [lenOf]; omega))) | ((first | rw [drop_cI] | rw [drop_cE] | rw [drop_cS] | rw [drop_cP] | rw [drop_cR]); rotate_left; assumption)); try simp only [go_sem, ↓reduceIte, Nat.reduceAdd, Nat.reduceEqDiff, Nat.reduceLT, Nat.reduceLeDiff, Nat.reduceBEq, Int.reduceEq, Int.reduceLT, Int.reduceLE]))
end Go.Proofs.Ytlhfeiacigmliaa

/- The wash-house's soap: what the functions compute: purses, and the truths of a slate at work. -/
namespace Go.Proofs.Ytlhfeiacigmliaa
open Go
set_option maxRecDepth 10000

def c7 (a : Nat → Int) (m : Nat) : List AVal := c6 a ++ [.map m]
def c7t (a : Nat → Int) (m j : Nat) : List AVal := (c7 a m).drop (j + 1)
abbrev Purse : Type := (Nat → Int) × Nat
def cT (x : Purse) : List AVal := [.vref (c7 x.1 x.2)]
@[go_sem] theorem fill_purse (a : Nat → Int) (m : Nat) : fillK2 (decide (7 ≤ frLen (splice [i64 0, i64 0, i64 0, i64 0, i64 0, i64 0, .nilm] 0 (c6 a)))) (splice [i64 0, i64 0, i64 0, i64 0, i64 0, i64 0, .nilm] 0 (c6 a)) 6 [.map m] [] = some (c7 a m) := (rfl)
@[go_sem] theorem look_c7 (s : St) (a : Nat → Int) (m : Nat) : lookN s (.vref (c7 a m)) 6 = some (c6 a) := (rfl)
@[go_sem] theorem drop6_c7 (a : Nat → Int) (m : Nat) : List.drop 6 (c7 a m) = [.map m] := (rfl)
theorem drop_c7 {j : Nat} (a : Nat → Int) (m : Nat) (h : j < 6) : List.drop (Nat.mul j 1) (c7 a m) = i64 (a j) :: c7t a m j := by
  rw [show Nat.mul j 1 = j from Nat.mul_one j]
  match j, h with
  | 0, _ | 1, _ | 2, _ | 3, _ | 4, _ | 5, _ => rfl
@[go_sem] theorem norms_c7 (a : Nat → Int) (m : Nat) : norms (c7 a m) = c7 a m := (rfl)
theorem beqs_c7 (a : Nat → Int) (m : Nat) : beqs (c7 a m) (c7 a m) = true := by simp [c7, c6, beqs, AVal.beq]
@[go_sem] theorem beq_own_cT (p : Nat) (l : List Purse) : AVal.beq (ownSl cT p l) (ownSl cT p l) = true := beq_own (fun x => by simp [cT, beqs, AVal.beq, beqs_c7]) p l
theorem drop_cT {l : List Purse} {i : Nat} {x : Purse} (h : l[i]? = some x) : List.drop (Nat.mul i 1) (cellsOf cT l) = .vref (c7 x.1 x.2) :: cellsOf cT (l.drop (i + 1)) := drop_cells (f := cT) (fun _ => rfl) h
def eq6 (a b : Nat → Int) : Bool := decide (a 0 = b 0) && (decide (a 1 = b 1) && (decide (a 2 = b 2) && (decide (a 3 = b 3) && (decide (a 4 = b 4) && (decide (a 5 = b 5) && true)))))
@[go_sem] theorem eqCells_c6 (a b : Nat → Int) : eqCells [0, 0, 0, 0, 0, 0] (c6 a) (c6 b) = some (eq6 a b) := (rfl)
theorem k80 (a : Nat → Int) (N : Nat) (O : List AObj) (p : Nat) (q : Nat → Nat) : lim tbl (.call 80 [.agg (c6 a)]) ⟨N, O, p, q⟩ = some (.ret, [.vref (c7 a N)], ⟨na N 1, .map true [] :: O, p, q⟩) := by
  rw [lim_call tbl_80]
  (try simp only [go_sem, ↓reduceIte, Nat.reduceAdd, Nat.reduceEqDiff, Nat.reduceLT, Nat.reduceLeDiff, Nat.reduceBEq, Int.reduceEq, Int.reduceLT, Int.reduceLE]); (repeat ((first | (rw [lt_yes]; rotate_left; (first | omega | (simp [lenOf, app]; omega) | (simp only [lenOf]; omega))) | (rw [lt_no]; rotate_left; (first | omega | (simp [lenOf, app]; omega) | (simp only [lenOf]; omega))) | (rw [idxA_at]; rotate_left; (first | omega | (simp [lenOf, app]; omega) | (simp only [lenOf]; omega))) | (rw [wr_up]; rotate_left; (first | omega | (simp [lenOf, app]; omega) | (simp only [lenOf]; omega))) | ((first | rw [drop_cI] | rw [drop_cE] | rw [drop_cS] | rw [drop_cP] | rw [drop_cR]); rotate_left; assumption)); try simp only [go_sem, ↓reduceIte, Nat.reduceAdd, Nat.reduceEqDiff, Nat.reduceLT, Nat.reduceLeDiff, Nat.reduceBEq, Int.reduceEq, Int.reduceLT, Int.reduceLE]))
def loop74 (w : Int) (es : List Ent) (ss : List Say) (N : Nat) (st : LoopState) (pd : Option AExit) : AObj :=
  .loop ⟨st, pd, .agg [i64 w, sl cE es, sl cS ss] :: .vref [i64 w, sl cE es, sl cS ss] :: .nilp :: i64 0 :: i64 0 :: .ptr (na N 1) 0 :: .tup [] :: .agg [i64 w, sl cE es, sl cS ss] :: i64 0 :: i64 0 :: .bool false :: .tup [] :: .agg [i64 w, sl cE es, sl cS ss] :: .agg [i64 w, sl cE es, sl cS ss, .sl0] :: .ptr N 0 :: .agg [i64 w, sl cE es, sl cS ss] :: .fn (.func 130) [] [.vref [i64 w, sl cE es, sl cS ss]] :: [.tup [], .tup [], .tup [], .tup [], .tup [], .tup [], .tup [], .tup [], .tup [], .tup [], .tup [], .tup [], .tup [], .tup [], .tup [], .tup [], .tup [], .tup [], .tup [], .tup [], .tup [], .tup [], .tup [], .tup [], .tup [], .tup [], .tup [], .tup [], .tup [], .tup [], .tup [], .tup [], .tup [], .tup [], .tup [], .tup [], .tup [], .tup [], .tup [], .tup [], .tup [], .tup [], .tup [], .tup [], .tup [], .tup [], .tup [], .tup [], .tup []], [17], .ops [⟨some 6, none, .alloc [i64 0, i64 0, i64 0, i64 0, i64 0, i64 0]⟩, ⟨none, none, .store 6 (.tmp 6) (.tmp 17)⟩], a74_l0⟩
/-- What is asked of all ounces: what all women are owed in the truths, one after the other, where it changes. -/
def askStep (es : List Ent) (ss : List Say) (vs : List (Nat → Int)) (L : List Int) : List (Nat → Int) :=
  if rightUp (owV es L) [] 0 ss && (match vs.getLast? with | none => true | some a => !eq6 a (owV es L)) then vs ++ [owV es L] else vs
def asked (S : Slate) : List (Nat → Int) := (iterL (fun _ _ => true) (askStep S.es S.ss) (ozs S.es) []).1
theorem askStep_len (es : List Ent) (ss : List Say) (vs : List (Nat → Int)) (L : List Int) : (askStep es ss vs L).length ≤ vs.length + 1 := by
  have : ∀ b : Bool, (if b then vs ++ [owV es L] else vs).length ≤ vs.length + 1 := by intro b; cases b <;> simp
  exact this _
structure J74 (w : Int) (es : List Ent) (ss : List Say) (N : Nat) (O : List AObj) (p : Nat) (q : Nat → Nat) (vs : List (Nat → Int)) (now : List Int) (T : List Purse) (M : Nat) (Q : List AObj) : Prop where
  vs : T.map (·.1) = vs
  old : OldO N O M Q
  wk : gO M Q N = some (.cells [i64 w, sl cE es, sl cS ss, ownSl cT p T])
  cell : gO M Q (na N 1) = some (.cells [.ptr N 0])
  loop : gO M Q (na (na N 1) 1) = some (loop74 w es ss N .ready none)
  nl : now.length = es.length
  nb : gO M Q (na (na (na N 1) 1) 1) = some (.cells (cellsOf cI now))
  c3 : gO M Q (na (na (na (na N 1) 1) 1) 1) = some (.cells [.hsl (na (na (na N 1) 1) 1) 0 (lenOf es) (some (lenOf es))])
  c4 : gO M Q (na (na (na (na (na N 1) 1) 1) 1) 1) = some (.cells [.fn (.func 131) [] [.vref [i64 w, sl cE es, sl cS ss], .vref [.yld (na (na N 1) 1)], .ptr (na (na (na (na N 1) 1) 1) 1) 0, .ptr (na (na (na (na (na N 1) 1) 1) 1) 1) 0]])
  maps : ∀ x ∈ T, na (na (na (na (na N 1) 1) 1) 1) 1 < x.2 ∧ gO M Q x.2 = some (.map true [])
  nd : (T.map (·.2)).Nodup
theorem J74.upd {w : Int} {es : List Ent} {ss : List Say} {N : Nat} {O : List AObj} {p : Nat} {q : Nat → Nat} {vs : List (Nat → Int)} {now : List Int} {T : List Purse} {M : Nat} {Q : List AObj} (h : J74 w es ss N O p q vs now T M Q) {M' : Nat} {Q' : List AObj} {T' : List Purse} {vs' : List (Nat → Int)}
    (hv : T'.map (·.1) = vs') (ho : OldO N O M' Q') (hw : gO M' Q' N = some (.cells [i64 w, sl cE es, sl cS ss, ownSl cT p T'])) (hk : ∀ b o, b ≠ N → b < M → gO M Q b = some o → gO M' Q' b = some o)
    (hm : ∀ x ∈ T', x ∉ T → na (na (na (na (na N 1) 1) 1) 1) 1 < x.2 ∧ gO M' Q' x.2 = some (.map true [])) (hn : (T'.map (·.2)).Nodup) : J74 w es ss N O p q vs' now T' M' Q' := by
  have lt := fun b o (g : gO M Q b = some o) => gO_lt g
  refine ⟨hv, ho, hw, hk _ _ (by simp only [na]; omega) (lt _ _ h.cell) h.cell, hk _ _ (by simp only [na]; omega) (lt _ _ h.loop) h.loop, h.nl, hk _ _ (by simp only [na]; omega) (lt _ _ h.nb) h.nb, hk _ _ (by simp only [na]; omega) (lt _ _ h.c3) h.c3, hk _ _ (by simp only [na]; omega) (lt _ _ h.c4) h.c4, fun x hx => ?_, hn⟩
  by_cases hx' : x ∈ T
  · obtain ⟨g1, g2⟩ := h.maps x hx'
    exact ⟨g1, hk _ _ (by simp only [na] at g1; omega) (lt _ _ g2) g2⟩
  · exact hm x hx hx'
theorem it74 {w : Int} {es : List Ent} {ss : List Say} (hG : Good ⟨w, es, ss⟩) (N : Nat) (O : List AObj) (p : Nat) (q : Nat → Nat) :
    IterOk (σ := List (Nat → Int)) List.length 100000 (fun vs now s => ∃ T M Q, s = ⟨M, Q, roomP p (lenOf T), roomC p q (lenOf T)⟩ ∧ J74 w es ss N O p q vs now T M Q) (fun _ _ => False) (fun _ _ => true) (askStep es ss) w es ss
      (na (na N 1) 1) (na (na (na N 1) 1) 1) (na (na (na (na N 1) 1) 1) 1) (na (na (na (na (na N 1) 1) 1) 1) 1) := by
  refine ⟨by have := hG.e6; simp only at this; omega, hG.oe, hG.of, ?_, ?_, fun vs L => askStep_len es ss vs L, ?_⟩
  · rintro vs now s ⟨T, M, Q, rfl, h⟩
    exact ⟨h.nl, h.nb, h.c3, h.c4⟩
  · rintro vs now s i v hi ⟨T, M, Q, rfl, h⟩
    obtain ⟨Q', s1, _, g1, g2, g3⟩ := gO_set h.nb (.cells (cellsOf cI (now.set i v)))
    have k := fun b o (hb : b ≠ na (na (na N 1) 1) 1) (g : gO M Q b = some o) => (g2 b hb).trans g
    refine ⟨T, M, Q', s1 (roomP p (lenOf T)) (roomC p q (lenOf T)), ?_⟩
    have hwk := k _ _ (by simp only [na]; omega) h.wk
    refine ⟨h.vs, g3 _ _ h.old (by simp only [na]; omega), hwk, k _ _ (by simp only [na]; omega) h.cell, k _ _ (by simp only [na]; omega) h.loop, by simpa using h.nl, g1,
      k _ _ (by simp only [na]; omega) h.c3, k _ _ (by simp only [na]; omega) h.c4, fun x hx => ?_, h.nd⟩
    obtain ⟨m1, m2⟩ := h.maps x hx
    exact ⟨m1, k _ _ (by simp only [na] at m1 ⊢; omega) m2⟩
  · rintro vs now s ⟨T, M, Q, rfl, h⟩ hB _
    have h96 := fun s => k96n ⟨w, es, ss⟩ (owV es now) (by have := hG.s5; simp only at this ⊢; omega) hG.os s
    simp only at h96
    have hTl : T.length < 100000 := by have := congrArg List.length h.vs; simp at this; omega
    have hr := lim_round (T := tbl) (l := na (na N 1) 1) (args := [.agg (c6 (owV es now))]) (s := ⟨M, Q, roomP p (lenOf T), roomC p q (lenOf T)⟩) h.loop rfl
    simp only [if_true]
    have e1 : St.get ⟨na M 1, .cells (c6 (owV es now)) :: Q, roomP p (lenOf T), roomC p q (lenOf T)⟩ (na (na N 1) 1) = some (loop74 w es ss N .ready none) := gO_push h.loop _
    obtain ⟨Q1, _, s1, g1, g2, g3⟩ := gO_set h.loop (loop74 w es ss N .busy none)
    have k1 : ∀ b o, b ≠ na (na N 1) 1 → gO M Q b = some o → gO M Q1 b = some o := fun b o hb g => (g2 b hb).trans g
    have hcell := k1 _ _ (by simp only [na]; omega) h.cell
    have hwk := k1 _ _ (by simp only [na]; omega) h.wk
    have e2 : ∀ p' q', St.get ⟨na M 1, .cells (c6 (owV es now)) :: Q1, p', q'⟩ (na (na N 1) 1) = some (loop74 w es ss N .busy none) := fun _ _ => gO_push g1 _
    have e3 : ∀ p' q', St.get ⟨na M 1, .cells (c6 (owV es now)) :: Q1, p', q'⟩ (na N 1) = some (.cells [.ptr N 0]) := fun _ _ => gO_push hcell _
    have e4 : ∀ p' q', St.get ⟨na M 1, .cells (c6 (owV es now)) :: Q1, p', q'⟩ N = some (.cells [i64 w, sl cE es, sl cS ss, ownSl cT p T]) := fun _ _ => gO_push hwk _
    obtain ⟨Q2, _, s2, g4, g5, g6⟩ := gO_set g1 (loop74 w es ss N .ready none)
    have k2 : ∀ b o, b ≠ na (na N 1) 1 → gO M Q b = some o → gO M Q2 b = some o := fun b o hb g => (g5 b hb).trans (k1 b o hb g)
    have hNN : N < na (na N 1) 1 := by simp only [na]; omega
    have same : askStep es ss vs now = vs → J74 w es ss N O p q (askStep es ss vs now) now T (na M 1) (.cells (c6 (owV es now)) :: Q2) := by
      intro hs
      rw [hs]
      refine h.upd h.vs ((g6 _ _ (g3 _ _ h.old (Nat.le_of_lt hNN)) (Nat.le_of_lt hNN)).push _) (gO_push (k2 _ _ (by simp only [na]; omega) h.wk) _) (fun b o hb _ g => ?_) (fun x hx hx' => absurd hx hx') h.nd
      by_cases hbl : b = na (na N 1) 1
      · subst hbl
        rw [h.loop] at g; cases g
        exact gO_push g4 _
      · exact gO_push (k2 b o hbl g) _
    cases hR : rightUp (owV es now) [] 0 ss with
    | false =>
      rw [hR] at h96
      refine ⟨⟨na M 1, .cells (c6 (owV es now)) :: Q2, roomP p (lenOf T), roomC p q (lenOf T)⟩, ?_, T, _, _, rfl, same (by simp [askStep, hR])⟩
      rw [hr]
      generalize owV es now = A at h96 e1 e2 e3 e4
      unfold loop74 at e1 e2 s1 s2
      (try simp only [go_sem, ↓reduceIte, Nat.reduceAdd, Nat.reduceEqDiff, Nat.reduceLT, Nat.reduceLeDiff, Nat.reduceBEq, Int.reduceEq, Int.reduceLT, Int.reduceLE]); (repeat ((first | rw [e1] | rw [s1] | simp only [h96] | rw [e2] | rw [s2] | (rw [lt_yes]; rotate_left; (first | omega | (simp [lenOf, app]; omega) | (simp only [lenOf]; omega))) | (rw [lt_no]; rotate_left; (first | omega | (simp [lenOf, app]; omega) | (simp only [lenOf]; omega))) | (rw [idxA_at]; rotate_left; (first | omega | (simp [lenOf, app]; omega) | (simp only [lenOf]; omega))) | (rw [wr_up]; rotate_left; (first | omega | (simp [lenOf, app]; omega) | (simp only [lenOf]; omega))) | ((first | rw [drop_cI] | rw [drop_cE] | rw [drop_cS] | rw [drop_cP] | rw [drop_cR]); rotate_left; assumption)); try simp only [go_sem, ↓reduceIte, Nat.reduceAdd, Nat.reduceEqDiff, Nat.reduceLT, Nat.reduceLeDiff, Nat.reduceBEq, Int.reduceEq, Int.reduceLT, Int.reduceLE]))
    | true =>
      rw [hR] at h96
      have hk80 := fun p' q' => k80 (owV es now) (na M 1) (.cells (c6 (owV es now)) :: Q1) p' q'
      have happ := append_own (f := cT) (sz := 1) (fun _ => rfl) 8 p q (na (na M 1) 1) (.map true [] :: .cells (c6 (owV es now)) :: Q1) T (owV es now, na M 1) [.vref (c7 (owV es now) (na M 1))] rfl .full (by omega) (by omega)
      have e5 : ∀ p' q', St.get ⟨na (na M 1) 1, .map true [] :: .cells (c6 (owV es now)) :: Q1, p', q'⟩ (na N 1) = some (.cells [.ptr N 0]) := fun _ _ => gO_push (gO_push hcell _) _
      have e6 : ∀ p' q', St.get ⟨na (na M 1) 1, .map true [] :: .cells (c6 (owV es now)) :: Q1, p', q'⟩ N = some (.cells [i64 w, sl cE es, sl cS ss, ownSl cT p T]) := fun _ _ => gO_push (gO_push hwk _) _
      obtain ⟨Q3, _, s3, g7, g8, g9⟩ := gO_set (gO_push hwk (.cells (c6 (owV es now)))) (.cells [i64 w, sl cE es, sl cS ss, ownSl cT p (app T [(owV es now, na M 1)])])
      have k3 : gO (na M 1) Q3 (na (na N 1) 1) = some (loop74 w es ss N .busy none) := (g8 _ (by simp only [na]; omega)).trans (gO_push g1 _)
      have e7 : ∀ p' q', St.get ⟨na (na M 1) 1, .map true [] :: Q3, p', q'⟩ (na (na N 1) 1) = some (loop74 w es ss N .busy none) := fun _ _ => gO_push k3 _
      obtain ⟨Q4, _, s4, g10, g11, g12⟩ := gO_set k3 (loop74 w es ss N .ready none)
      have hNM : na (na (na (na (na N 1) 1) 1) 1) 1 < M := gO_lt h.c4
      have new : askStep es ss vs now = vs ++ [owV es now] → J74 w es ss N O p q (askStep es ss vs now) now (app T [(owV es now, na M 1)]) (na (na M 1) 1) (.map true [] :: Q4) := by
        intro hs
        rw [hs]
        have o1 : OldO N O (na M 1) (.cells (c6 (owV es now)) :: Q1) := (g3 _ _ h.old (Nat.le_of_lt hNN)).push _
        refine h.upd (by simp [app, h.vs]) ((g12 _ _ (g9 _ _ o1 (Nat.le_refl _)) (Nat.le_of_lt hNN)).push _) (gO_push ((g11 _ (by simp only [na]; omega)).trans g7) _) (fun b o hb hbM g => ?_) (fun x hx hx' => ?_) ?_
        · by_cases hbl : b = na (na N 1) 1
          · subst hbl
            rw [h.loop] at g; cases g
            exact gO_push g10 _
          · exact gO_push ((g11 b hbl).trans ((g8 b hb).trans (gO_push (k1 b o hbl g) _))) _
        · simp only [app, List.mem_append, List.mem_singleton] at hx
          rcases hx with hx | hx
          · exact absurd hx hx'
          · subst hx
            exact ⟨by simp only [na] at hNM ⊢; omega, gO_new ..⟩
        · simp only [app, List.map_append, List.map_cons, List.map_nil]
          rw [List.nodup_append]
          refine ⟨h.nd, by simp, ?_⟩
          intro a ha b hb hab
          simp only [List.mem_singleton] at hb
          subst hab
          obtain ⟨x, hx, hxa⟩ := List.mem_map.mp ha
          have := gO_lt (h.maps x hx).2
          rw [hxa, hb] at this
          simp only [na] at this; omega
      clear g4 g5 g6 g7 g8 g9 g10 g11 g12
      rcases List.eq_nil_or_concat T with hT | ⟨T0, x, hT⟩
      · have hvs : vs = [] := by rw [← h.vs, hT]; rfl
        refine ⟨⟨na (na M 1) 1, .map true [] :: Q4, roomP p (lenOf (app T [(owV es now, na M 1)])), roomC p q (lenOf (app T [(owV es now, na M 1)]))⟩, ?_, _, _, _, rfl, new (by simp [askStep, hR, hvs])⟩
        rw [hr]
        have hz : Int.ofNat (lenOf T) = 0 := by rw [hT]; rfl
        generalize owV es now = A at h96 e1 e2 e3 e4 e5 e6 hk80 happ s3 s4 e7 ⊢
        unfold loop74 at e1 e2 e7 s1 s4
        (try simp only [go_sem, ↓reduceIte, Nat.reduceAdd, Nat.reduceEqDiff, Nat.reduceLT, Nat.reduceLeDiff, Nat.reduceBEq, Int.reduceEq, Int.reduceLT, Int.reduceLE]); (repeat ((first | rw [e1] | rw [s1] | simp only [h96] | rw [e3] | rw [e4] | rw [eq_y hz] | rw [hk80] | rw [happ] | rw [e5] | rw [e6] | rw [s3] | rw [e7] | rw [s4] | (rw [lt_yes]; rotate_left; (first | omega | (simp [lenOf, app]; omega) | (simp only [lenOf]; omega))) | (rw [lt_no]; rotate_left; (first | omega | (simp [lenOf, app]; omega) | (simp only [lenOf]; omega))) | (rw [idxA_at]; rotate_left; (first | omega | (simp [lenOf, app]; omega) | (simp only [lenOf]; omega))) | (rw [wr_up]; rotate_left; (first | omega | (simp [lenOf, app]; omega) | (simp only [lenOf]; omega))) | ((first | rw [drop_cI] | rw [drop_cE] | rw [drop_cS] | rw [drop_cP] | rw [drop_cR]); rotate_left; assumption)); try simp only [go_sem, ↓reduceIte, Nat.reduceAdd, Nat.reduceEqDiff, Nat.reduceLT, Nat.reduceLeDiff, Nat.reduceBEq, Int.reduceEq, Int.reduceLT, Int.reduceLE]))
      · have hlast : T[T0.length]? = some x := by rw [hT]; simp
        have hlen : lenOf T = T0.length + 1 := by rw [hT]; simp [lenOf]
        have hlT : T0.length < lenOf T := by omega
        have hT0 : T0.length < 100000 := by
          have := congrArg List.length hT
          have h2 : T.length = T0.length + 1 := hlen
          omega
        have hz : ¬ Int.ofNat (lenOf T) = 0 := by rw [hlen]; simp; omega
        have hw : wr .i64 (Int.sub (Int.ofNat (lenOf T)) 1) = Int.ofNat T0.length := by
          rw [hlen, fold_sub, wr_in] <;> simp <;> omega
        have hd := drop_cT hlast
        have hv : vs.getLast? = some x.1 := by rw [← h.vs, hT]; simp
        obtain ⟨x1, x2⟩ := x
        simp only at hv hd
        cases he : eq6 x1 (owV es now) with
        | false =>
          refine ⟨⟨na (na M 1) 1, .map true [] :: Q4, roomP p (lenOf (app T [(owV es now, na M 1)])), roomC p q (lenOf (app T [(owV es now, na M 1)]))⟩, ?_, _, _, _, rfl, new (by simp [askStep, hR, hv, he])⟩
          rw [hr]
          clear new same
          generalize owV es now = A at h96 e1 e2 e3 e4 e5 e6 hk80 happ s3 s4 e7 he ⊢
          unfold loop74 at e1 e2 e7 s1 s4
          (try simp only [go_sem, ↓reduceIte, Nat.reduceAdd, Nat.reduceEqDiff, Nat.reduceLT, Nat.reduceLeDiff, Nat.reduceBEq, Int.reduceEq, Int.reduceLT, Int.reduceLE]); (repeat ((first | rw [e1] | rw [s1] | simp only [h96] | rw [e3] | rw [e4] | rw [eq_n hz] | rw [hw] | rw [idxA_at hlT] | rw [hd] | simp only [he] | rw [hk80] | rw [happ] | rw [e5] | rw [e6] | rw [s3] | rw [e7] | rw [s4] | (rw [lt_yes]; rotate_left; (first | omega | (simp [lenOf, app]; omega) | (simp only [lenOf]; omega))) | (rw [lt_no]; rotate_left; (first | omega | (simp [lenOf, app]; omega) | (simp only [lenOf]; omega))) | (rw [idxA_at]; rotate_left; (first | omega | (simp [lenOf, app]; omega) | (simp only [lenOf]; omega))) | (rw [wr_up]; rotate_left; (first | omega | (simp [lenOf, app]; omega) | (simp only [lenOf]; omega))) | ((first | rw [drop_cI] | rw [drop_cE] | rw [drop_cS] | rw [drop_cP] | rw [drop_cR]); rotate_left; assumption)); try simp only [go_sem, ↓reduceIte, Nat.reduceAdd, Nat.reduceEqDiff, Nat.reduceLT, Nat.reduceLeDiff, Nat.reduceBEq, Int.reduceEq, Int.reduceLT, Int.reduceLE]))
        | true =>
          refine ⟨⟨na M 1, .cells (c6 (owV es now)) :: Q2, roomP p (lenOf T), roomC p q (lenOf T)⟩, ?_, T, _, _, rfl, same (by simp [askStep, hR, hv, he])⟩
          rw [hr]
          clear new same
          generalize owV es now = A at h96 e1 e2 e3 e4 e5 e6 hk80 happ s3 s4 e7 he ⊢
          unfold loop74 at e1 e2 s1 s2
          (try simp only [go_sem, ↓reduceIte, Nat.reduceAdd, Nat.reduceEqDiff, Nat.reduceLT, Nat.reduceLeDiff, Nat.reduceBEq, Int.reduceEq, Int.reduceLT, Int.reduceLE]); (repeat ((first | rw [e1] | rw [s1] | simp only [h96] | rw [e3] | rw [e4] | rw [eq_n hz] | rw [hw] | rw [idxA_at hlT] | rw [hd] | simp only [he] | rw [e2] | rw [s2] | (rw [lt_yes]; rotate_left; (first | omega | (simp [lenOf, app]; omega) | (simp only [lenOf]; omega))) | (rw [lt_no]; rotate_left; (first | omega | (simp [lenOf, app]; omega) | (simp only [lenOf]; omega))) | (rw [idxA_at]; rotate_left; (first | omega | (simp [lenOf, app]; omega) | (simp only [lenOf]; omega))) | (rw [wr_up]; rotate_left; (first | omega | (simp [lenOf, app]; omega) | (simp only [lenOf]; omega))) | ((first | rw [drop_cI] | rw [drop_cE] | rw [drop_cS] | rw [drop_cP] | rw [drop_cR]); rotate_left; assumption)); try simp only [go_sem, ↓reduceIte, Nat.reduceAdd, Nat.reduceEqDiff, Nat.reduceLT, Nat.reduceLeDiff, Nat.reduceBEq, Int.reduceEq, Int.reduceLT, Int.reduceLE]))
end Go.Proofs.Ytlhfeiacigmliaa

/- The wash-house's soap: what the functions compute: the truths of a slate at work, and bounds. -/
namespace Go.Proofs.Ytlhfeiacigmliaa
open Go
set_option maxRecDepth 10000
set_option linter.unusedSectionVars false

theorem rngUp_len : ∀ (m : Nat) (v : Int), (rngUp v m).length = m
  | 0, _ => rfl
  | m + 1, v => by simp [rngUp, rngUp_len m]
theorem ozs_len : ∀ es : List Ent, (ozs es).length = prodN es
  | [] => rfl
  | e :: es => by
    have ih := ozs_len es
    have h : ∀ l : List Int, (l.flatMap fun v => (ozs es).map (v :: ·)).length = l.length * prodN es := by
      intro l; induction l with
      | nil => simp
      | cons a l ihl => rw [List.flatMap_cons, List.length_append, ihl, List.length_map, ih, List.length_cons, Nat.add_mul]; omega
    rw [ozs, h, rngUp_len, prodN]
theorem iter_true {σ : Type} (step : σ → List Int → σ) : ∀ (l : List (List Int)) (x : σ), (iterL (fun _ _ => true) step l x).2 = true
  | [], _ => rfl
  | L :: l, x => by simp [iterL, iter_true step l]
theorem k74 (S : Slate) (hc : checkSlate S = 0) (N : Nat) (O : List AObj) (p : Nat) (q : Nat → Nat) : ∃ (T : List Purse) (M : Nat) (Q : List AObj),
    T.map (·.1) = asked S ∧ OldO N O M Q ∧ gO M Q N = some (.cells [i64 S.women, sl cE S.es, sl cS S.ss, ownSl cT p T]) ∧ (∀ x ∈ T, N < x.2 ∧ gO M Q x.2 = some (.map true [])) ∧ (T.map (·.2)).Nodup ∧ T.length < 100000 ∧
    lim tbl (.call 74 [vSl S]) ⟨N, O, p, q⟩ = some (.ret, [if asked S = [] then .tup [.nilp, i64 11] else .tup [.ptr N 0, i64 0]], ⟨M, Q, roomP p (lenOf T), roomC p q (lenOf T)⟩) := by
  have h63 := fun s => k63 S s
  rw [hc] at h63
  have hG := good_of_check hc
  have hm := (many_of_check hc).1
  obtain ⟨w, es, ss⟩ := S
  simp only at hm ⊢
  have hJ : J74 w es ss N O p q [] (zerosL es.length) [] (na (na (na (na (na (na N 1) 1) 1) 1) 1) 1) (.cells [.fn (.func 131) [] [.vref [i64 w, sl cE es, sl cS ss], .vref [.yld (na (na N 1) 1)], .ptr (na (na (na (na N 1) 1) 1) 1) 0, .ptr (na (na (na (na (na N 1) 1) 1) 1) 1) 0]] ::
      .cells [.hsl (na (na (na N 1) 1) 1) 0 (lenOf es) (some (lenOf es))] :: .cells (cellsOf cI (zerosL (lenOf es))) :: loop74 w es ss N .ready none :: .cells [.ptr N 0] :: .cells [i64 w, sl cE es, sl cS ss, .sl0] :: O) := by
    refine ⟨rfl, (((((((OldO.refl N O).push _).push _).push _).push _).push _).push _), ?_, ?_, ?_, by simp [zerosL], ?_, ?_, ?_, by simp, by simp⟩
    · exact gO_push (gO_push (gO_push (gO_push (gO_push (gO_new ..) _) _) _) _) _
    · exact gO_push (gO_push (gO_push (gO_push (gO_new ..) _) _) _) _
    · exact gO_push (gO_push (gO_push (gO_new ..) _) _) _
    · exact gO_push (gO_push (gO_new ..) _) _
    · exact gO_push (gO_new ..) _
    · exact gO_new ..
  obtain ⟨s', hl, hr⟩ := k130 (it74 hG N O p q) [] (by rw [ozs_len]; simp; omega) ⟨[], _, _, rfl, hJ⟩
  rw [iter_true] at hr
  simp only [if_true] at hr
  simp only [lenOf_nil, roomP_0, roomC_0] at hl
  obtain ⟨now', T, M, Q, rfl, h⟩ := hr
  obtain ⟨Q1, s1, _, g1, g2, g3⟩ := gO_set h.loop (loop74 w es ss N .exhausted none)
  have k1 : ∀ b o, b ≠ na (na N 1) 1 → gO M Q b = some o → gO M Q1 b = some o := fun b o hb g => (g2 b hb).trans g
  have hwk := k1 _ _ (by simp only [na]; omega) h.wk
  have hcell := k1 _ _ (by simp only [na]; omega) h.cell
  have hTl : T.length < 100000 := by
    have h1 := congrArg List.length h.vs
    have h2 := iterL_K (fun _ _ => true) (askStep es ss) List.length (askStep_len es ss) (ozs es) []
    rw [ozs_len] at h2
    simp only [List.length_map, List.length_nil] at h1 h2; omega
  have hvs : T.map (·.1) = asked ⟨w, es, ss⟩ := h.vs
  refine ⟨T, M, Q1, hvs, g3 _ _ h.old (by simp only [na]; omega), hwk, fun x hx => ?_, h.nd, hTl, ?_⟩
  · obtain ⟨m1, m2⟩ := h.maps x hx
    exact ⟨by simp only [na] at m1; omega, k1 _ _ (by simp only [na] at m1 ⊢; omega) m2⟩
  · have e1 : ∀ p' q', St.get ⟨M, Q, p', q'⟩ (na (na N 1) 1) = some (loop74 w es ss N .ready none) := fun _ _ => h.loop
    have e2 : ∀ p' q', St.get ⟨M, Q1, p', q'⟩ (na N 1) = some (.cells [.ptr N 0]) := fun _ _ => hcell
    have e3 : ∀ p' q', St.get ⟨M, Q1, p', q'⟩ N = some (.cells [i64 w, sl cE es, sl cS ss, ownSl cT p T]) := fun _ _ => hwk
    rw [lim_call tbl_74]
    unfold loop74 at hl e1 s1
    by_cases hz : asked ⟨w, es, ss⟩ = []
    · have hT0 : Int.ofNat (lenOf T) = 0 := by
        rw [hz] at hvs
        have : T = [] := by simpa using hvs
        rw [this]; rfl
      rw [if_pos hz]
      (try simp only [go_sem, ↓reduceIte, Nat.reduceAdd, Nat.reduceEqDiff, Nat.reduceLT, Nat.reduceLeDiff, Nat.reduceBEq, Int.reduceEq, Int.reduceLT, Int.reduceLE]); (repeat ((first | simp only [h63] | rw [hl] | rw [e1] | rw [s1] | rw [e2] | rw [e3] | rw [eq_y hT0] | (rw [lt_yes]; rotate_left; (first | omega | (simp [lenOf, app]; omega) | (simp only [lenOf]; omega))) | (rw [lt_no]; rotate_left; (first | omega | (simp [lenOf, app]; omega) | (simp only [lenOf]; omega))) | (rw [idxA_at]; rotate_left; (first | omega | (simp [lenOf, app]; omega) | (simp only [lenOf]; omega))) | (rw [wr_up]; rotate_left; (first | omega | (simp [lenOf, app]; omega) | (simp only [lenOf]; omega))) | ((first | rw [drop_cI] | rw [drop_cE] | rw [drop_cS] | rw [drop_cP] | rw [drop_cR]); rotate_left; assumption)); try simp only [go_sem, ↓reduceIte, Nat.reduceAdd, Nat.reduceEqDiff, Nat.reduceLT, Nat.reduceLeDiff, Nat.reduceBEq, Int.reduceEq, Int.reduceLT, Int.reduceLE]))
    · have hT0 : ¬ Int.ofNat (lenOf T) = 0 := by
        intro h0
        apply hz
        rw [← hvs]
        have : T = [] := List.length_eq_zero_iff.mp (by simpa [lenOf] using h0)
        rw [this]; rfl
      rw [if_neg hz]
      (try simp only [go_sem, ↓reduceIte, Nat.reduceAdd, Nat.reduceEqDiff, Nat.reduceLT, Nat.reduceLeDiff, Nat.reduceBEq, Int.reduceEq, Int.reduceLT, Int.reduceLE]); (repeat ((first | simp only [h63] | rw [hl] | rw [e1] | rw [s1] | rw [e2] | rw [e3] | rw [eq_n hT0] | (rw [lt_yes]; rotate_left; (first | omega | (simp [lenOf, app]; omega) | (simp only [lenOf]; omega))) | (rw [lt_no]; rotate_left; (first | omega | (simp [lenOf, app]; omega) | (simp only [lenOf]; omega))) | (rw [idxA_at]; rotate_left; (first | omega | (simp [lenOf, app]; omega) | (simp only [lenOf]; omega))) | (rw [wr_up]; rotate_left; (first | omega | (simp [lenOf, app]; omega) | (simp only [lenOf]; omega))) | ((first | rw [drop_cI] | rw [drop_cE] | rw [drop_cS] | rw [drop_cP] | rw [drop_cR]); rotate_left; assumption)); try simp only [go_sem, ↓reduceIte, Nat.reduceAdd, Nat.reduceEqDiff, Nat.reduceLT, Nat.reduceLeDiff, Nat.reduceBEq, Int.reduceEq, Int.reduceLT, Int.reduceLE]))
theorem k74n (S : Slate) (hc : checkSlate S ≠ 0) (s : St) : lim tbl (.call 74 [vSl S]) s = some (.ret, [.tup [.nilp, i64 (checkSlate S)]], s) := by
  have h63 := fun s => k63 S s
  rw [lim_call tbl_74]
  generalize checkSlate S = c at h63 hc ⊢
  obtain ⟨w, es, ss⟩ := S
  obtain ⟨N, O, p, q⟩ := s
  (try simp only [go_sem, ↓reduceIte, Nat.reduceAdd, Nat.reduceEqDiff, Nat.reduceLT, Nat.reduceLeDiff, Nat.reduceBEq, Int.reduceEq, Int.reduceLT, Int.reduceLE]); (repeat ((first | simp only [h63] | rw [eq_n hc] | (rw [lt_yes]; rotate_left; (first | omega | (simp [lenOf, app]; omega) | (simp only [lenOf]; omega))) | (rw [lt_no]; rotate_left; (first | omega | (simp [lenOf, app]; omega) | (simp only [lenOf]; omega))) | (rw [idxA_at]; rotate_left; (first | omega | (simp [lenOf, app]; omega) | (simp only [lenOf]; omega))) | (rw [wr_up]; rotate_left; (first | omega | (simp [lenOf, app]; omega) | (simp only [lenOf]; omega))) | ((first | rw [drop_cI] | rw [drop_cE] | rw [drop_cS] | rw [drop_cP] | rw [drop_cR]); rotate_left; assumption)); try simp only [go_sem, ↓reduceIte, Nat.reduceAdd, Nat.reduceEqDiff, Nat.reduceLT, Nat.reduceLeDiff, Nat.reduceBEq, Int.reduceEq, Int.reduceLT, Int.reduceLE]))
theorem k75 (a : Nat → Int) (m j : Nat) (hj : j < 6) (s : St) : lim tbl (.call 75 [.vref (c7 a m), i64 (Int.ofNat j)]) s = some (.ret, [i64 (a j)], s) := by
  rw [lim_call tbl_75]
  have hd := drop_c7 a m hj
  have hi : idxA (i64 (Int.ofNat j)) 6 = some j := idxA_at hj
  obtain ⟨N, O, p, q⟩ := s
  (try simp only [go_sem, ↓reduceIte, Nat.reduceAdd, Nat.reduceEqDiff, Nat.reduceLT, Nat.reduceLeDiff, Nat.reduceBEq, Int.reduceEq, Int.reduceLT, Int.reduceLE]); (repeat ((first | rw [hi] | rw [hd] | (rw [lt_yes]; rotate_left; (first | omega | (simp [lenOf, app]; omega) | (simp only [lenOf]; omega))) | (rw [lt_no]; rotate_left; (first | omega | (simp [lenOf, app]; omega) | (simp only [lenOf]; omega))) | (rw [idxA_at]; rotate_left; (first | omega | (simp [lenOf, app]; omega) | (simp only [lenOf]; omega))) | (rw [wr_up]; rotate_left; (first | omega | (simp [lenOf, app]; omega) | (simp only [lenOf]; omega))) | ((first | rw [drop_cI] | rw [drop_cE] | rw [drop_cS] | rw [drop_cP] | rw [drop_cR]); rotate_left; assumption)); try simp only [go_sem, ↓reduceIte, Nat.reduceAdd, Nat.reduceEqDiff, Nat.reduceLT, Nat.reduceLeDiff, Nat.reduceBEq, Int.reduceEq, Int.reduceLT, Int.reduceLE]))

/-- The maps of purses, with what is known of them. -/
def MapsOk (P : (Nat → Int) → List (List AVal × AVal) → Prop) (T : List Purse) (M : Nat) (Q : List AObj) : Prop := ∀ x ∈ T, ∃ es, gO M Q x.2 = some (.map true es) ∧ P x.1 es
/-- Nothing changes but these maps, and new blocks. -/
structure Eff (P : (Nat → Int) → List (List AVal × AVal) → Prop) (T : List Purse) (M : Nat) (Q : List AObj) (M' : Nat) (Q' : List AObj) : Prop where
  keep : ∀ b o, (∀ x ∈ T, b ≠ x.2) → gO M Q b = some o → gO M' Q' b = some o
  old : ∀ N0 O0, (∀ x ∈ T, N0 ≤ x.2) → OldO N0 O0 M Q → OldO N0 O0 M' Q'
  maps : MapsOk P T M' Q'
theorem MapsOk.push {P : (Nat → Int) → List (List AVal × AVal) → Prop} {T : List Purse} {M : Nat} {Q : List AObj} (h : MapsOk P T M Q) (o : AObj) : MapsOk P T (na M 1) (o :: Q) := fun x hx => by
  obtain ⟨es, h1, h2⟩ := h x hx
  exact ⟨es, gO_push h1 o, h2⟩
theorem Eff.refl {P : (Nat → Int) → List (List AVal × AVal) → Prop} {T : List Purse} {M : Nat} {Q : List AObj} (h : MapsOk P T M Q) : Eff P T M Q M Q := ⟨fun _ _ _ g => g, fun _ _ _ g => g, h⟩
def pbUp (lo hi : Int) (val : (Nat → Int) → Int) : List (Nat → Int) → Int × Int
  | [] => (lo, hi)
  | a :: l => pbUp (mn lo (val a)) (mx hi (val a)) val l
def pBounds (val : (Nat → Int) → Int) : List (Nat → Int) → Int × Int
  | [] => (0, 0)
  | a :: l => pbUp (mn (val a) (val a)) (mx (val a) (val a)) val l
section
variable (P : (Nat → Int) → List (List AVal × AVal) → Prop) (T : List Purse) (g : Nat) (j : Nat) (val : (Nat → Int) → Int) (p : Nat) (q : Nat → Nat)
  (hf : ∀ x ∈ T, ∀ M Q, MapsOk P T M Q → ∃ M' Q', Eff P T M Q M' Q' ∧ one (lim tbl (.call g [.vref (c7 x.1 x.2), i64 (Int.ofNat j)]) ⟨M, Q, p, q⟩) = some (i64 (val x.1), ⟨M', Q', p, q⟩)) (hg : g < 4096)
include hf hg
theorem l76 (pt : Nat) (hT : T.length < 100000) (b : Nat) (hb : ∀ x ∈ T, b ≠ x.2) : ∀ (k i : Nat) (lo hi : Int) (M : Nat) (Q : List AObj), i + k = T.length → 0 < i → MapsOk P T M Q → gO M Q b = some (.cells [i64 lo, i64 hi]) →
    ∃ M' Q', (∀ b' o, b' ≠ b → (∀ x ∈ T, b' ≠ x.2) → gO M Q b' = some o → gO M' Q' b' = some o) ∧ (∀ N0 O0, N0 ≤ b → (∀ x ∈ T, N0 ≤ x.2) → OldO N0 O0 M Q → OldO N0 O0 M' Q') ∧ MapsOk P T M' Q' ∧
      gO M' Q' b = some (.cells [i64 (pbUp lo hi val ((T.drop i).map (·.1))).1, i64 (pbUp lo hi val ((T.drop i).map (·.1))).2]) ∧
      lim tbl (.loop a76_l0 35 ⟨[2, 3, 6, 13, 14, 15], [6], []⟩ [i64 (Int.ofNat j), .vref [.fn (.func g) [] []], .ptr b 0, ownSl cT pt T, i64 (Int.ofNat (lenOf T)), i64 (Int.ofNat i)]) ⟨M, Q, p, q⟩
        = some (.exit 0, [.ptr b 0], ⟨M', Q', p, q⟩) := by
  intro k
  induction k with
  | zero =>
    intro i lo hi M Q hi' h0 hm hgb
    refine ⟨M, Q, fun _ _ _ _ g => g, fun _ _ _ _ h => h, hm, ?_, ?_⟩
    · rw [List.drop_eq_nil_of_le (by omega)]; exact hgb
    · rw [lim_loop]
      (try simp only [go_sem, ↓reduceIte, Nat.reduceAdd, Nat.reduceEqDiff, Nat.reduceLT, Nat.reduceLeDiff, Nat.reduceBEq, Int.reduceEq, Int.reduceLT, Int.reduceLE]); (repeat ((first | (rw [lt_yes]; rotate_left; (first | omega | (simp [lenOf, app]; omega) | (simp only [lenOf]; omega))) | (rw [lt_no]; rotate_left; (first | omega | (simp [lenOf, app]; omega) | (simp only [lenOf]; omega))) | (rw [idxA_at]; rotate_left; (first | omega | (simp [lenOf, app]; omega) | (simp only [lenOf]; omega))) | (rw [wr_up]; rotate_left; (first | omega | (simp [lenOf, app]; omega) | (simp only [lenOf]; omega))) | ((first | rw [drop_cI] | rw [drop_cE] | rw [drop_cS] | rw [drop_cP] | rw [drop_cR]); rotate_left; assumption)); try simp only [go_sem, ↓reduceIte, Nat.reduceAdd, Nat.reduceEqDiff, Nat.reduceLT, Nat.reduceLeDiff, Nat.reduceBEq, Int.reduceEq, Int.reduceLT, Int.reduceLE]))
  | succ k ih =>
    intro i lo hi M Q hi' h0 hm hgb
    have hlt : i < T.length := by omega
    obtain ⟨x, hx, hd⟩ := getElem_drop hlt
    have hdr := drop_cT hx
    obtain ⟨M1, Q1, hE, hc⟩ := hf x (List.mem_of_getElem? hx) M Q hm
    have g1 := hE.keep b _ hb hgb
    obtain ⟨Q2, s2, _, g2, g3, g4⟩ := gO_set g1 (.cells [i64 (mn lo (val x.1)), i64 (mx hi (val x.1))])
    have hm2 : MapsOk P T M1 Q2 := fun y hy => by
      obtain ⟨es, h1, h2⟩ := hE.maps y hy
      exact ⟨es, (g3 _ (Ne.symm (hb y hy))).trans h1, h2⟩
    obtain ⟨M', Q', k1, k2, k3, k4, k5⟩ := ih (i + 1) _ _ M1 Q2 (by omega) (by omega) hm2 g2
    have e1 : St.get ⟨M1, Q1, p, q⟩ b = some (.cells [i64 lo, i64 hi]) := g1
    have hz : ¬ Int.ofNat i = 0 := by simp; omega
    refine ⟨M', Q', fun b' o hb' hb2 hg' => k1 b' o hb' hb2 ((g3 b' hb').trans (hE.keep b' o hb2 hg')), fun N0 O0 hn hn' ho => k2 N0 O0 hn hn' (g4 N0 O0 (hE.old N0 O0 hn' ho) hn), k3, ?_, ?_⟩
    · rw [hd]; exact k4
    · rw [← k5, lim_loop]
      generalize hR : lim tbl (.loop _ _ _ _) _ = R
      (try simp only [go_sem, ↓reduceIte, Nat.reduceAdd, Nat.reduceEqDiff, Nat.reduceLT, Nat.reduceLeDiff, Nat.reduceBEq, Int.reduceEq, Int.reduceLT, Int.reduceLE]); (repeat ((first | rw [hdr] | rw [if_pos hg] | rw [hc] | rw [eq_n hz] | rw [e1] | rw [s2] | (rw [lt_yes]; rotate_left; (first | omega | (simp [lenOf, app]; omega) | (simp only [lenOf]; omega))) | (rw [lt_no]; rotate_left; (first | omega | (simp [lenOf, app]; omega) | (simp only [lenOf]; omega))) | (rw [idxA_at]; rotate_left; (first | omega | (simp [lenOf, app]; omega) | (simp only [lenOf]; omega))) | (rw [wr_up]; rotate_left; (first | omega | (simp [lenOf, app]; omega) | (simp only [lenOf]; omega))) | ((first | rw [drop_cI] | rw [drop_cE] | rw [drop_cS] | rw [drop_cP] | rw [drop_cR]); rotate_left; assumption)); try simp only [go_sem, ↓reduceIte, Nat.reduceAdd, Nat.reduceEqDiff, Nat.reduceLT, Nat.reduceLeDiff, Nat.reduceBEq, Int.reduceEq, Int.reduceLT, Int.reduceLE]))
      exact hR
theorem k76 (pt : Nat) (hT : T.length < 100000) (tw : Nat) (cs : List AVal) (c1 c2 c3 : AVal) (M : Nat) (Q : List AObj) (htw : gO M Q tw = some (.cells [c1, c2, c3, ownSl cT pt T])) (hm : MapsOk P T M Q) :
    ∃ M' Q', (∀ b' o, (∀ x ∈ T, b' ≠ x.2) → gO M Q b' = some o → gO M' Q' b' = some o) ∧ (∀ N0 O0, (∀ x ∈ T, N0 ≤ x.2) → OldO N0 O0 M Q → OldO N0 O0 M' Q') ∧ MapsOk P T M' Q' ∧
      lim tbl (.call 76 [.agg [.fn (.func g) [] []], .ptr tw 0, i64 (Int.ofNat j)]) ⟨M, Q, p, q⟩
        = some (.ret, [.agg [i64 (pBounds val (T.map (·.1))).1, i64 (pBounds val (T.map (·.1))).2]], ⟨M', Q', p, q⟩) := by
  have hbM : ∀ x ∈ T, M ≠ x.2 := fun x hx h => by
    obtain ⟨es, h1, _⟩ := hm x hx
    have := gO_lt h1; omega
  have hm1 := hm.push (.cells [i64 0, i64 0])
  have e0 : St.get ⟨na M 1, .cells [i64 0, i64 0] :: Q, p, q⟩ tw = some (.cells [c1, c2, c3, ownSl cT pt T]) := gO_push htw _
  rw [lim_call tbl_76]
  have fin : ∀ (M' : Nat) (Q' : List AObj) (lo hi : Int), gO M' Q' M = some (.cells [i64 lo, i64 hi]) → ∃ Q'', St.set ⟨M', Q', p, q⟩ M (.cells [i64 lo, i64 hi]) = ⟨M', Q'', p, q⟩ ∧ gO M' Q'' M = some (.cells [i64 lo, i64 hi]) ∧ (∀ b', b' ≠ M → gO M' Q'' b' = gO M' Q' b') ∧ ∀ N0 O0, OldO N0 O0 M' Q' → N0 ≤ M → OldO N0 O0 M' Q'' := fun M' Q' lo hi h => by
    obtain ⟨Q'', s1, _, a1, a2, a3⟩ := gO_set h (.cells [i64 lo, i64 hi])
    exact ⟨Q'', s1 p q, a1, a2, a3⟩
  cases hTT : T with
  | nil =>
    refine ⟨na M 1, .cells [i64 0, i64 0] :: Q, fun b' o _ hg => gO_push hg _, fun N0 O0 _ ho => ho.push _, fun x hx => by simp at hx, ?_⟩
    have hl : lim tbl (.loop a76_l0 35 ⟨[2, 3, 6, 13, 14, 15], [6], []⟩ [i64 (Int.ofNat j), .vref [.fn (.func g) [] []], .ptr M 0, ownSl cT pt [], i64 0, i64 0]) ⟨na M 1, .cells [i64 0, i64 0] :: Q, p, q⟩
        = some (.exit 0, [.ptr M 0], ⟨na M 1, .cells [i64 0, i64 0] :: Q, p, q⟩) := by
      rw [lim_loop]
      (try simp only [go_sem, ↓reduceIte, Nat.reduceAdd, Nat.reduceEqDiff, Nat.reduceLT, Nat.reduceLeDiff, Nat.reduceBEq, Int.reduceEq, Int.reduceLT, Int.reduceLE]); (repeat ((first | (rw [lt_yes]; rotate_left; (first | omega | (simp [lenOf, app]; omega) | (simp only [lenOf]; omega))) | (rw [lt_no]; rotate_left; (first | omega | (simp [lenOf, app]; omega) | (simp only [lenOf]; omega))) | (rw [idxA_at]; rotate_left; (first | omega | (simp [lenOf, app]; omega) | (simp only [lenOf]; omega))) | (rw [wr_up]; rotate_left; (first | omega | (simp [lenOf, app]; omega) | (simp only [lenOf]; omega))) | ((first | rw [drop_cI] | rw [drop_cE] | rw [drop_cS] | rw [drop_cP] | rw [drop_cR]); rotate_left; assumption)); try simp only [go_sem, ↓reduceIte, Nat.reduceAdd, Nat.reduceEqDiff, Nat.reduceLT, Nat.reduceLeDiff, Nat.reduceBEq, Int.reduceEq, Int.reduceLT, Int.reduceLE]))
    rw [hTT] at e0
    simp only [List.map_nil, pBounds]
    (try simp only [go_sem, ↓reduceIte, Nat.reduceAdd, Nat.reduceEqDiff, Nat.reduceLT, Nat.reduceLeDiff, Nat.reduceBEq, Int.reduceEq, Int.reduceLT, Int.reduceLE]); (repeat ((first | rw [e0] | rw [hl] | (rw [lt_yes]; rotate_left; (first | omega | (simp [lenOf, app]; omega) | (simp only [lenOf]; omega))) | (rw [lt_no]; rotate_left; (first | omega | (simp [lenOf, app]; omega) | (simp only [lenOf]; omega))) | (rw [idxA_at]; rotate_left; (first | omega | (simp [lenOf, app]; omega) | (simp only [lenOf]; omega))) | (rw [wr_up]; rotate_left; (first | omega | (simp [lenOf, app]; omega) | (simp only [lenOf]; omega))) | ((first | rw [drop_cI] | rw [drop_cE] | rw [drop_cS] | rw [drop_cP] | rw [drop_cR]); rotate_left; assumption)); try simp only [go_sem, ↓reduceIte, Nat.reduceAdd, Nat.reduceEqDiff, Nat.reduceLT, Nat.reduceLeDiff, Nat.reduceBEq, Int.reduceEq, Int.reduceLT, Int.reduceLE]))
  | cons x T' =>
    have hx : T[0]? = some x := by rw [hTT]; rfl
    have hxm : x ∈ T := by rw [hTT]; simp
    have hdr := drop_cT hx
    obtain ⟨M1, Q1, hE, hc⟩ := hf x hxm (na M 1) (.cells [i64 0, i64 0] :: Q) hm1
    have g1 := hE.keep M _ hbM (gO_new ..)
    obtain ⟨Q2, s2, _, g2, g3, g4⟩ := gO_set g1 (.cells [i64 (val x.1), i64 (val x.1)])
    obtain ⟨Q3, s3, _, g5, g6, g7⟩ := gO_set g2 (.cells [i64 (mn (val x.1) (val x.1)), i64 (mx (val x.1) (val x.1))])
    have hm3 : MapsOk P T M1 Q3 := fun y hy => by
      obtain ⟨es, h1, h2⟩ := hE.maps y hy
      exact ⟨es, (g6 _ (Ne.symm (hbM y hy))).trans ((g3 _ (Ne.symm (hbM y hy))).trans h1), h2⟩
    have hTl : 1 + (T.length - 1) = T.length := by rw [hTT]; simp; omega
    obtain ⟨M', Q', k1, k2, k3, k4, k5⟩ := l76 P T g j val p q hf hg pt hT M hbM (T.length - 1) 1 _ _ M1 Q3 hTl (by omega) hm3 g5
    obtain ⟨Q4, s4, g8, g9, g10⟩ := fin M' Q' _ _ k4
    have hpb : pbUp (mn (val x.1) (val x.1)) (mx (val x.1) (val x.1)) val ((T.drop 1).map (·.1)) = pBounds val (T.map (·.1)) := by rw [hTT]; rfl
    rw [hpb] at k4 s4 g8
    rw [← hTT]
    refine ⟨M', Q4, fun b' o hb' hg => ?_, fun N0 O0 hn ho => ?_, fun y hy => ?_, ?_⟩
    · have hb : b' ≠ M := by have := gO_lt hg; omega
      rw [g9 b' hb]
      refine k1 b' o hb hb' ?_
      rw [g6 b' hb, g3 b' hb]
      exact hE.keep b' o hb' (gO_push hg _)
    · have hnM : N0 ≤ M := ho.1
      exact g10 N0 O0 (k2 N0 O0 hnM hn (g7 N0 O0 (g4 N0 O0 (hE.old N0 O0 hn (ho.push _)) hnM) hnM)) hnM
    · obtain ⟨es, h1, h2⟩ := k3 y hy
      exact ⟨es, (g9 _ (Ne.symm (hbM y hy))).trans h1, h2⟩
    · have e1 : St.get ⟨M1, Q1, p, q⟩ M = some (.cells [i64 0, i64 0]) := g1
      have e2 : St.get ⟨M1, Q2, p, q⟩ M = some (.cells [i64 (val x.1), i64 (val x.1)]) := g2
      have e3 : St.get ⟨M', Q', p, q⟩ M = some (.cells [i64 (pBounds val (T.map (·.1))).1, i64 (pBounds val (T.map (·.1))).2]) := k4
      have e4 : St.get ⟨M', Q4, p, q⟩ M = some (.cells [i64 (pBounds val (T.map (·.1))).1, i64 (pBounds val (T.map (·.1))).2]) := g8
      have hl0 : 0 < lenOf T := by rw [hTT]; simp [lenOf]
      have hlt : @decide ((0 : Int) < Int.ofNat (lenOf T)) (Int.decLt _ _) = true := lt_y (by simp; omega)
      have hix : idxA (i64 0) (lenOf T) = some 0 := idxA_at hl0
      have hm0 : Nat.mul 0 1 = 0 := rfl
      rw [hm0, List.drop_zero] at hdr
      generalize (pBounds val (T.map (·.1))) = R at e3 e4 s4 ⊢
      have hl : lim tbl (.loop a76_l0 35 ⟨[2, 3, 6, 13, 14, 15], [6], []⟩ [i64 (Int.ofNat j), .vref [.fn (.func g) [] []], .ptr M 0, ownSl cT pt T, i64 (Int.ofNat (lenOf T)), i64 0]) ⟨na M 1, .cells [i64 0, i64 0] :: Q, p, q⟩
          = some (.exit 0, [.ptr M 0], ⟨M', Q', p, q⟩) := by
        rw [← k5, lim_loop]
        generalize hRR : lim tbl (.loop _ _ _ _) ⟨M1, Q3, p, q⟩ = RR
        (try simp only [go_sem, ↓reduceIte, Nat.reduceAdd, Nat.reduceEqDiff, Nat.reduceLT, Nat.reduceLeDiff, Nat.reduceBEq, Int.reduceEq, Int.reduceLT, Int.reduceLE]); (repeat ((first | rw [hlt] | rw [hix] | rw [hdr] | rw [if_pos hg] | rw [hc] | rw [e1] | rw [s2] | rw [e2] | rw [s3] | (rw [lt_yes]; rotate_left; (first | omega | (simp [lenOf, app]; omega) | (simp only [lenOf]; omega))) | (rw [lt_no]; rotate_left; (first | omega | (simp [lenOf, app]; omega) | (simp only [lenOf]; omega))) | (rw [idxA_at]; rotate_left; (first | omega | (simp [lenOf, app]; omega) | (simp only [lenOf]; omega))) | (rw [wr_up]; rotate_left; (first | omega | (simp [lenOf, app]; omega) | (simp only [lenOf]; omega))) | ((first | rw [drop_cI] | rw [drop_cE] | rw [drop_cS] | rw [drop_cP] | rw [drop_cR]); rotate_left; assumption)); try simp only [go_sem, ↓reduceIte, Nat.reduceAdd, Nat.reduceEqDiff, Nat.reduceLT, Nat.reduceLeDiff, Nat.reduceBEq, Int.reduceEq, Int.reduceLT, Int.reduceLE]))
        exact hRR
      (try simp only [go_sem, ↓reduceIte, Nat.reduceAdd, Nat.reduceEqDiff, Nat.reduceLT, Nat.reduceLeDiff, Nat.reduceBEq, Int.reduceEq, Int.reduceLT, Int.reduceLE]); (repeat ((first | rw [e0] | rw [hl] | rw [e3] | rw [s4] | rw [e4] | (rw [lt_yes]; rotate_left; (first | omega | (simp [lenOf, app]; omega) | (simp only [lenOf]; omega))) | (rw [lt_no]; rotate_left; (first | omega | (simp [lenOf, app]; omega) | (simp only [lenOf]; omega))) | (rw [idxA_at]; rotate_left; (first | omega | (simp [lenOf, app]; omega) | (simp only [lenOf]; omega))) | (rw [wr_up]; rotate_left; (first | omega | (simp [lenOf, app]; omega) | (simp only [lenOf]; omega))) | ((first | rw [drop_cI] | rw [drop_cE] | rw [drop_cS] | rw [drop_cP] | rw [drop_cR]); rotate_left; assumption)); try simp only [go_sem, ↓reduceIte, Nat.reduceAdd, Nat.reduceEqDiff, Nat.reduceLT, Nat.reduceLeDiff, Nat.reduceBEq, Int.reduceEq, Int.reduceLT, Int.reduceLE]))
end
end Go.Proofs.Ytlhfeiacigmliaa

/- The wash-house's soap: what the functions compute: Bounds and Owes. -/
namespace Go.Proofs.Ytlhfeiacigmliaa
open Go
set_option maxRecDepth 10000

@[go_sem] theorem frz1_own_cR (n : Nat) (s : St) (sz p : Nat) (l : List Rng) : frz1 n s sz (ownSl cR p l) = some (sl cR l) := frz1_ownSl (fun _ => rfl) ..
def boundsF (vs : List (Nat → Int)) (j : Nat) : Rng := ⟨(pBounds (fun a => a j) vs).1, (pBounds (fun a => a j) vs).2⟩
def boundsP (vs : List (Nat → Int)) (i k : Nat) : List Rng := (List.range' i k).map (boundsF vs)
theorem l23 (T : List Purse) (hT : T.length < 100000) (pt tw : Nat) (c1 c2 c3 : AVal) (n : Nat) (hn : n ≤ 6) (N : Nat) (O : List AObj) (hN : ∀ x ∈ T, N ≤ x.2) (htN : ∀ x ∈ T, tw ≠ x.2) (p : Nat) (q : Nat → Nat) : ∀ (k i : Nat) (acc : List Rng) (M : Nat) (Q : List AObj), i + k = n → acc.length = i →
    OldO N O M Q → gO M Q tw = some (.cells [c1, c2, c3, ownSl cT pt T]) → MapsOk (fun _ _ => True) T M Q →
    ∃ M' Q', OldO N O M' Q' ∧ lim tbl (.loop a23_l0 33 ⟨[4, 6, 20, 21], [6], []⟩ [.ptr tw 0, ownSl cR p acc, i64 (Int.ofNat n), i64 (Int.ofNat i)]) ⟨M, Q, roomP p (lenOf acc), roomC p q (lenOf acc)⟩
      = some (.exit 0, [ownSl cR p (app acc (boundsP (T.map (·.1)) i k))], ⟨M', Q', roomP p (lenOf (app acc (boundsP (T.map (·.1)) i k))), roomC p q (lenOf (app acc (boundsP (T.map (·.1)) i k)))⟩) := by
  intro k
  induction k with
  | zero =>
    intro i acc M Q hi ha ho htw hm
    refine ⟨M, Q, ho, ?_⟩
    rw [show boundsP (T.map (·.1)) i 0 = [] from rfl, app_nil, lim_loop]
    (try simp only [go_sem, ↓reduceIte, Nat.reduceAdd, Nat.reduceEqDiff, Nat.reduceLT, Nat.reduceLeDiff, Nat.reduceBEq, Int.reduceEq, Int.reduceLT, Int.reduceLE]); (repeat ((first | (rw [lt_yes]; rotate_left; (first | omega | (simp [lenOf, app]; omega) | (simp only [lenOf]; omega))) | (rw [lt_no]; rotate_left; (first | omega | (simp [lenOf, app]; omega) | (simp only [lenOf]; omega))) | (rw [idxA_at]; rotate_left; (first | omega | (simp [lenOf, app]; omega) | (simp only [lenOf]; omega))) | (rw [wr_up]; rotate_left; (first | omega | (simp [lenOf, app]; omega) | (simp only [lenOf]; omega))) | ((first | rw [drop_cI] | rw [drop_cE] | rw [drop_cS] | rw [drop_cP] | rw [drop_cR]); rotate_left; assumption)); try simp only [go_sem, ↓reduceIte, Nat.reduceAdd, Nat.reduceEqDiff, Nat.reduceLT, Nat.reduceLeDiff, Nat.reduceBEq, Int.reduceEq, Int.reduceLT, Int.reduceLE]))
  | succ k ih =>
    intro i acc M Q hi ha ho htw hm
    have hb : boundsP (T.map (·.1)) i (k + 1) = boundsF (T.map (·.1)) i :: boundsP (T.map (·.1)) (i + 1) k := by simp [boundsP, List.range'_succ]
    obtain ⟨M1, Q1, h1, h2, h3, hc⟩ := k76 (fun _ _ => True) T 75 i (fun a => a i) (roomP p (lenOf acc)) (roomC p q (lenOf acc)) (fun x _ M Q hm => ⟨M, Q, Eff.refl hm, by rw [k75 _ _ _ (by omega)]; rfl⟩) (by omega) pt hT tw [] c1 c2 c3 M Q htw hm
    have happ := append_own (f := cR) (sz := 2) (fun _ => rfl) 16 p q M1 Q1 acc (boundsF (T.map (·.1)) i) [i64 (pBounds (fun a => a i) (T.map (·.1))).1, i64 (pBounds (fun a => a i) (T.map (·.1))).2] rfl .full (by omega) (by omega)
    obtain ⟨M', Q', h4, h'⟩ := ih (i + 1) (app acc [boundsF (T.map (·.1)) i]) M1 Q1 (by omega) (by simp [app]; omega) (h2 _ _ hN ho) (h1 _ _ htN htw) h3
    refine ⟨M', Q', h4, ?_⟩
    rw [hb, app_assoc, lim_loop]
    generalize hR : some (_, _, _) = R at h' ⊢
    (try simp only [go_sem, ↓reduceIte, Nat.reduceAdd, Nat.reduceEqDiff, Nat.reduceLT, Nat.reduceLeDiff, Nat.reduceBEq, Int.reduceEq, Int.reduceLT, Int.reduceLE]); (repeat ((first | rw [hc] | rw [happ] | (rw [lt_yes]; rotate_left; (first | omega | (simp [lenOf, app]; omega) | (simp only [lenOf]; omega))) | (rw [lt_no]; rotate_left; (first | omega | (simp [lenOf, app]; omega) | (simp only [lenOf]; omega))) | (rw [idxA_at]; rotate_left; (first | omega | (simp [lenOf, app]; omega) | (simp only [lenOf]; omega))) | (rw [wr_up]; rotate_left; (first | omega | (simp [lenOf, app]; omega) | (simp only [lenOf]; omega))) | ((first | rw [drop_cI] | rw [drop_cE] | rw [drop_cS] | rw [drop_cP] | rw [drop_cR]); rotate_left; assumption)); try simp only [go_sem, ↓reduceIte, Nat.reduceAdd, Nat.reduceEqDiff, Nat.reduceLT, Nat.reduceLeDiff, Nat.reduceBEq, Int.reduceEq, Int.reduceLT, Int.reduceLE]))
    exact h'
/-- What Bounds returns. -/
def askedErr (S : Slate) : Int := if checkSlate S ≠ 0 then checkSlate S else if asked S = [] then 11 else 0
def boundsL (S : Slate) : List Rng := if askedErr S = 0 then boundsP (asked S) 0 S.women.toNat else []
theorem k23 (S : Slate) (s : St) : lim tbl (.call 23 [vSl S]) s = some (.ret, [.tup [sl cR (boundsL S), i64 (askedErr S)]], s) := by
  rw [lim_call tbl_23]
  by_cases hc : checkSlate S = 0
  · have hG := good_of_check hc
    obtain ⟨N, O, p, q⟩ := s
    obtain ⟨T, M, Q, hv, ho, htw, hm, hnd, hTl, h74⟩ := k74 S hc N O p q
    by_cases hz : asked S = []
    · have he : askedErr S = 11 := by simp [askedErr, hc, hz]
      have hb : boundsL S = [] := by simp [boundsL, he]
      rw [if_pos hz] at h74
      rw [he, hb]
      have hold := ho.oldr p q (roomP p (lenOf T)) (lenOf T)
      obtain ⟨w, es, ss⟩ := S
      (try simp only [go_sem, ↓reduceIte, Nat.reduceAdd, Nat.reduceEqDiff, Nat.reduceLT, Nat.reduceLeDiff, Nat.reduceBEq, Int.reduceEq, Int.reduceLT, Int.reduceLE]); (repeat ((first | rw [h74] | rw [hold] | (rw [lt_yes]; rotate_left; (first | omega | (simp [lenOf, app]; omega) | (simp only [lenOf]; omega))) | (rw [lt_no]; rotate_left; (first | omega | (simp [lenOf, app]; omega) | (simp only [lenOf]; omega))) | (rw [idxA_at]; rotate_left; (first | omega | (simp [lenOf, app]; omega) | (simp only [lenOf]; omega))) | (rw [wr_up]; rotate_left; (first | omega | (simp [lenOf, app]; omega) | (simp only [lenOf]; omega))) | ((first | rw [drop_cI] | rw [drop_cE] | rw [drop_cS] | rw [drop_cP] | rw [drop_cR]); rotate_left; assumption)); try simp only [go_sem, ↓reduceIte, Nat.reduceAdd, Nat.reduceEqDiff, Nat.reduceLT, Nat.reduceLeDiff, Nat.reduceBEq, Int.reduceEq, Int.reduceLT, Int.reduceLE]))
    · have he : askedErr S = 0 := by simp [askedErr, hc, hz]
      have hb : boundsL S = boundsP (asked S) 0 S.women.toNat := by simp [boundsL, he]
      rw [if_neg hz] at h74
      rw [he, hb]
      have hw0 := hG.w0
      have hw6 := hG.w6
      obtain ⟨w, es, ss⟩ := S
      simp only at hw0 hw6 htw ⊢
      obtain ⟨n, rfl⟩ : ∃ n : Nat, w = Int.ofNat n := ⟨w.toNat, by simp; omega⟩
      have hn : n ≤ 6 := by change (n : Int) ≤ 6 at hw6; omega
      simp only [show (Int.ofNat n).toNat = n from rfl]
      have hm' : MapsOk (fun _ _ => True) T M Q := fun x hx => ⟨[], (hm x hx).2, trivial⟩
      obtain ⟨M', Q', ho', h0⟩ := l23 T hTl p N (i64 (Int.ofNat n)) (sl cE es) (sl cS ss) n hn N O (fun x hx => Nat.le_of_lt (hm x hx).1) (fun x hx => Nat.ne_of_lt (hm x hx).1) (roomP p (lenOf T)) (roomC p q (lenOf T)) n 0 [] M Q (by omega) rfl ho htw hm'
      rw [nil_app, ownSl_nil, show lenOf ([] : List Rng) = 0 from rfl, roomP_0, roomC_0, ofNat_0, hv] at h0
      have e1 : ∀ p' q', St.get ⟨M, Q, p', q'⟩ N = some (.cells [i64 (Int.ofNat n), sl cE es, sl cS ss, ownSl cT p T]) := fun _ _ => htw
      generalize boundsP (asked ⟨Int.ofNat n, es, ss⟩) 0 n = B at h0 ⊢
      have hold : Ytlhfeiacigmliaa.old ⟨N, O, p, q⟩ ⟨M', Q', roomP (roomP p (lenOf T)) (lenOf B), roomC (roomP p (lenOf T)) (roomC p q (lenOf T)) (lenOf B)⟩ = true := by
        simp only [Ytlhfeiacigmliaa.old, decide_eq_true_eq]
        exact ⟨ho'.1, ho'.2, fun x hx => roomC_old2 p q _ _ x hx⟩
      (try simp only [go_sem, ↓reduceIte, Nat.reduceAdd, Nat.reduceEqDiff, Nat.reduceLT, Nat.reduceLeDiff, Nat.reduceBEq, Int.reduceEq, Int.reduceLT, Int.reduceLE]); (repeat ((first | rw [h74] | rw [e1] | rw [h0] | rw [hold] | (rw [lt_yes]; rotate_left; (first | omega | (simp [lenOf, app]; omega) | (simp only [lenOf]; omega))) | (rw [lt_no]; rotate_left; (first | omega | (simp [lenOf, app]; omega) | (simp only [lenOf]; omega))) | (rw [idxA_at]; rotate_left; (first | omega | (simp [lenOf, app]; omega) | (simp only [lenOf]; omega))) | (rw [wr_up]; rotate_left; (first | omega | (simp [lenOf, app]; omega) | (simp only [lenOf]; omega))) | ((first | rw [drop_cI] | rw [drop_cE] | rw [drop_cS] | rw [drop_cP] | rw [drop_cR]); rotate_left; assumption)); try simp only [go_sem, ↓reduceIte, Nat.reduceAdd, Nat.reduceEqDiff, Nat.reduceLT, Nat.reduceLeDiff, Nat.reduceBEq, Int.reduceEq, Int.reduceLT, Int.reduceLE]))
  · have he : askedErr S = checkSlate S := by simp [askedErr, hc]
    have hb : boundsL S = [] := by simp [boundsL, he, hc]
    have h74 := fun s => k74n S hc s
    rw [he, hb]
    generalize checkSlate S = c at h74 hc ⊢
    obtain ⟨w, es, ss⟩ := S
    obtain ⟨N, O, p, q⟩ := s
    (try simp only [go_sem, ↓reduceIte, Nat.reduceAdd, Nat.reduceEqDiff, Nat.reduceLT, Nat.reduceLeDiff, Nat.reduceBEq, Int.reduceEq, Int.reduceLT, Int.reduceLE]); (repeat ((first | simp only [h74] | rw [eq_n hc] | (rw [lt_yes]; rotate_left; (first | omega | (simp [lenOf, app]; omega) | (simp only [lenOf]; omega))) | (rw [lt_no]; rotate_left; (first | omega | (simp [lenOf, app]; omega) | (simp only [lenOf]; omega))) | (rw [idxA_at]; rotate_left; (first | omega | (simp [lenOf, app]; omega) | (simp only [lenOf]; omega))) | (rw [wr_up]; rotate_left; (first | omega | (simp [lenOf, app]; omega) | (simp only [lenOf]; omega))) | ((first | rw [drop_cI] | rw [drop_cE] | rw [drop_cS] | rw [drop_cP] | rw [drop_cR]); rotate_left; assumption)); try simp only [go_sem, ↓reduceIte, Nat.reduceAdd, Nat.reduceEqDiff, Nat.reduceLT, Nat.reduceLeDiff, Nat.reduceBEq, Int.reduceEq, Int.reduceLT, Int.reduceLE]))

def owesF (r : Rng) : Int := if r.hi < 0 then 1 else if 0 ≤ r.lo then 2 else 3
theorem l25 (R : List Rng) (hl : R.length < 100000) (p : Nat) (q : Nat → Nat) : ∀ (k i : Nat) (acc : List Int) (N : Nat) (O : List AObj), i + k = R.length → acc.length = i →
    ∃ M Q, Ext N O M Q ∧ lim tbl (.loop a25_l0 38 ⟨[6, 18, 19, 20], [6], []⟩ [ownSl cI p acc, sl cR R, i64 (Int.ofNat (lenOf R)), i64 (Int.ofNat i)]) ⟨N, O, roomP p (lenOf acc), roomC p q (lenOf acc)⟩
      = some (.exit 0, [ownSl cI p (app acc ((R.drop i).map owesF))], ⟨M, Q, roomP p (lenOf (app acc ((R.drop i).map owesF))), roomC p q (lenOf (app acc ((R.drop i).map owesF)))⟩) := by
  intro k
  induction k with
  | zero =>
    intro i acc N O hi ha
    refine ⟨N, O, Ext.refl .., ?_⟩
    rw [List.drop_eq_nil_of_le (by omega), List.map_nil, app_nil, lim_loop]
    (try simp only [go_sem, ↓reduceIte, Nat.reduceAdd, Nat.reduceEqDiff, Nat.reduceLT, Nat.reduceLeDiff, Nat.reduceBEq, Int.reduceEq, Int.reduceLT, Int.reduceLE]); (repeat ((first | (rw [lt_yes]; rotate_left; (first | omega | (simp [lenOf, app]; omega) | (simp only [lenOf]; omega))) | (rw [lt_no]; rotate_left; (first | omega | (simp [lenOf, app]; omega) | (simp only [lenOf]; omega))) | (rw [idxA_at]; rotate_left; (first | omega | (simp [lenOf, app]; omega) | (simp only [lenOf]; omega))) | (rw [wr_up]; rotate_left; (first | omega | (simp [lenOf, app]; omega) | (simp only [lenOf]; omega))) | ((first | rw [drop_cI] | rw [drop_cE] | rw [drop_cS] | rw [drop_cP] | rw [drop_cR]); rotate_left; assumption)); try simp only [go_sem, ↓reduceIte, Nat.reduceAdd, Nat.reduceEqDiff, Nat.reduceLT, Nat.reduceLeDiff, Nat.reduceBEq, Int.reduceEq, Int.reduceLT, Int.reduceLE]))
  | succ k ih =>
    intro i acc N O hi ha
    have hlt : i < R.length := by omega
    obtain ⟨r, hr, hd⟩ := getElem_drop hlt
    obtain ⟨lo, hi'⟩ := r
    rw [hd, List.map_cons, app_assoc]
    obtain ⟨M, Q, hx, h'⟩ := ih (i + 1) (app acc [owesF ⟨lo, hi'⟩]) (na N 1) (.cells [i64 lo, i64 hi'] :: O) (by omega) (by simp [app]; omega)
    refine ⟨M, Q, hx.push, ?_⟩
    have happ := append_own (f := cI) (sz := 1) (fun _ => rfl) 8 p q (na N 1) (.cells [i64 lo, i64 hi'] :: O) acc (owesF ⟨lo, hi'⟩) [i64 (owesF ⟨lo, hi'⟩)] rfl .full (by omega) (by omega)
    rw [lim_loop]
    generalize hRR : some (_, _, _) = RR at h' ⊢
    by_cases h1 : hi' < 0
    · have hf : owesF ⟨lo, hi'⟩ = 1 := by simp [owesF, h1]
      rw [hf] at happ h'
      (try simp only [go_sem, ↓reduceIte, Nat.reduceAdd, Nat.reduceEqDiff, Nat.reduceLT, Nat.reduceLeDiff, Nat.reduceBEq, Int.reduceEq, Int.reduceLT, Int.reduceLE]); (repeat ((first | rw [lt_y h1] | rw [happ] | (rw [lt_yes]; rotate_left; (first | omega | (simp [lenOf, app]; omega) | (simp only [lenOf]; omega))) | (rw [lt_no]; rotate_left; (first | omega | (simp [lenOf, app]; omega) | (simp only [lenOf]; omega))) | (rw [idxA_at]; rotate_left; (first | omega | (simp [lenOf, app]; omega) | (simp only [lenOf]; omega))) | (rw [wr_up]; rotate_left; (first | omega | (simp [lenOf, app]; omega) | (simp only [lenOf]; omega))) | ((first | rw [drop_cI] | rw [drop_cE] | rw [drop_cS] | rw [drop_cP] | rw [drop_cR]); rotate_left; assumption)); try simp only [go_sem, ↓reduceIte, Nat.reduceAdd, Nat.reduceEqDiff, Nat.reduceLT, Nat.reduceLeDiff, Nat.reduceBEq, Int.reduceEq, Int.reduceLT, Int.reduceLE]))
      exact h'
    · by_cases h2 : (0 : Int) ≤ lo
      · have hf : owesF ⟨lo, hi'⟩ = 2 := by simp [owesF, h1, h2]
        rw [hf] at happ h'
        (try simp only [go_sem, ↓reduceIte, Nat.reduceAdd, Nat.reduceEqDiff, Nat.reduceLT, Nat.reduceLeDiff, Nat.reduceBEq, Int.reduceEq, Int.reduceLT, Int.reduceLE]); (repeat ((first | rw [lt_n h1] | rw [le_y h2] | rw [happ] | (rw [lt_yes]; rotate_left; (first | omega | (simp [lenOf, app]; omega) | (simp only [lenOf]; omega))) | (rw [lt_no]; rotate_left; (first | omega | (simp [lenOf, app]; omega) | (simp only [lenOf]; omega))) | (rw [idxA_at]; rotate_left; (first | omega | (simp [lenOf, app]; omega) | (simp only [lenOf]; omega))) | (rw [wr_up]; rotate_left; (first | omega | (simp [lenOf, app]; omega) | (simp only [lenOf]; omega))) | ((first | rw [drop_cI] | rw [drop_cE] | rw [drop_cS] | rw [drop_cP] | rw [drop_cR]); rotate_left; assumption)); try simp only [go_sem, ↓reduceIte, Nat.reduceAdd, Nat.reduceEqDiff, Nat.reduceLT, Nat.reduceLeDiff, Nat.reduceBEq, Int.reduceEq, Int.reduceLT, Int.reduceLE]))
        exact h'
      · have hf : owesF ⟨lo, hi'⟩ = 3 := by simp [owesF, h1, h2]
        rw [hf] at happ h'
        (try simp only [go_sem, ↓reduceIte, Nat.reduceAdd, Nat.reduceEqDiff, Nat.reduceLT, Nat.reduceLeDiff, Nat.reduceBEq, Int.reduceEq, Int.reduceLT, Int.reduceLE]); (repeat ((first | rw [lt_n h1] | rw [le_n h2] | rw [happ] | (rw [lt_yes]; rotate_left; (first | omega | (simp [lenOf, app]; omega) | (simp only [lenOf]; omega))) | (rw [lt_no]; rotate_left; (first | omega | (simp [lenOf, app]; omega) | (simp only [lenOf]; omega))) | (rw [idxA_at]; rotate_left; (first | omega | (simp [lenOf, app]; omega) | (simp only [lenOf]; omega))) | (rw [wr_up]; rotate_left; (first | omega | (simp [lenOf, app]; omega) | (simp only [lenOf]; omega))) | ((first | rw [drop_cI] | rw [drop_cE] | rw [drop_cS] | rw [drop_cP] | rw [drop_cR]); rotate_left; assumption)); try simp only [go_sem, ↓reduceIte, Nat.reduceAdd, Nat.reduceEqDiff, Nat.reduceLT, Nat.reduceLeDiff, Nat.reduceBEq, Int.reduceEq, Int.reduceLT, Int.reduceLE]))
        exact h'
theorem k25 (S : Slate) (s : St) : lim tbl (.call 25 [vSl S]) s = some (.ret, [.tup [sl cI ((boundsL S).map owesF), i64 (askedErr S)]], s) := by
  have h23 := fun s => k23 S s
  rw [lim_call tbl_25]
  by_cases he : askedErr S = 0
  · have hl : (boundsL S).length < 100000 := by
      by_cases hc : checkSlate S = 0
      · have hG := good_of_check hc
        have := hG.w6
        rw [boundsL, if_pos he, boundsP, List.length_map, List.length_range']; omega
      · rw [askedErr, if_pos hc] at he; exact absurd he hc
    obtain ⟨N, O, p, q⟩ := s
    obtain ⟨M, Q, hx, h0⟩ := l25 (boundsL S) hl p q (boundsL S).length 0 [] N O (by omega) rfl
    rw [List.drop_zero, nil_app, ownSl_nil, show lenOf ([] : List Int) = 0 from rfl, roomP_0, roomC_0, ofNat_0] at h0
    rw [he] at h23 ⊢
    generalize (boundsL S).map owesF = V at h0 ⊢
    generalize boundsL S = R at h0 h23
    have hold := hx.old p q (roomP p (lenOf V)) (lenOf V)
    obtain ⟨w, es, ss⟩ := S
    (try simp only [go_sem, ↓reduceIte, Nat.reduceAdd, Nat.reduceEqDiff, Nat.reduceLT, Nat.reduceLeDiff, Nat.reduceBEq, Int.reduceEq, Int.reduceLT, Int.reduceLE]); (repeat ((first | simp only [h23] | rw [h0] | rw [hold] | (rw [lt_yes]; rotate_left; (first | omega | (simp [lenOf, app]; omega) | (simp only [lenOf]; omega))) | (rw [lt_no]; rotate_left; (first | omega | (simp [lenOf, app]; omega) | (simp only [lenOf]; omega))) | (rw [idxA_at]; rotate_left; (first | omega | (simp [lenOf, app]; omega) | (simp only [lenOf]; omega))) | (rw [wr_up]; rotate_left; (first | omega | (simp [lenOf, app]; omega) | (simp only [lenOf]; omega))) | ((first | rw [drop_cI] | rw [drop_cE] | rw [drop_cS] | rw [drop_cP] | rw [drop_cR]); rotate_left; assumption)); try simp only [go_sem, ↓reduceIte, Nat.reduceAdd, Nat.reduceEqDiff, Nat.reduceLT, Nat.reduceLeDiff, Nat.reduceBEq, Int.reduceEq, Int.reduceLT, Int.reduceLE]))
  · have hb : boundsL S = [] := by simp [boundsL, he]
    rw [hb] at h23 ⊢
    simp only [List.map_nil]
    generalize askedErr S = c at h23 he ⊢
    obtain ⟨w, es, ss⟩ := S
    obtain ⟨N, O, p, q⟩ := s
    (try simp only [go_sem, ↓reduceIte, Nat.reduceAdd, Nat.reduceEqDiff, Nat.reduceLT, Nat.reduceLeDiff, Nat.reduceBEq, Int.reduceEq, Int.reduceLT, Int.reduceLE]); (repeat ((first | simp only [h23] | rw [eq_n he] | (rw [lt_yes]; rotate_left; (first | omega | (simp [lenOf, app]; omega) | (simp only [lenOf]; omega))) | (rw [lt_no]; rotate_left; (first | omega | (simp [lenOf, app]; omega) | (simp only [lenOf]; omega))) | (rw [idxA_at]; rotate_left; (first | omega | (simp [lenOf, app]; omega) | (simp only [lenOf]; omega))) | (rw [wr_up]; rotate_left; (first | omega | (simp [lenOf, app]; omega) | (simp only [lenOf]; omega))) | ((first | rw [drop_cI] | rw [drop_cE] | rw [drop_cS] | rw [drop_cP] | rw [drop_cR]); rotate_left; assumption)); try simp only [go_sem, ↓reduceIte, Nat.reduceAdd, Nat.reduceEqDiff, Nat.reduceLT, Nat.reduceLeDiff, Nat.reduceBEq, Int.reduceEq, Int.reduceLT, Int.reduceLE]))
end Go.Proofs.Ytlhfeiacigmliaa

/- The wash-house's soap: what the functions compute: a purse's groups, how many. -/
namespace Go.Proofs.Ytlhfeiacigmliaa
open Go
set_option maxRecDepth 10000

theorem part_c6 {j : Nat} (a : Nat → Int) (h : j < 6) : partA false (c6 a) (Nat.mul j 1) 1 = some (i64 (a j)) := by
  rw [show Nat.mul j 1 = j from Nat.mul_one j]
  match j, h with
  | 0, _ | 1, _ | 2, _ | 3, _ | 4, _ | 5, _ => rfl
theorem mx_nat (a b : Nat) : mx (Int.ofNat a) (Int.ofNat b) = Int.ofNat (max a b) := by
  simp only [mx, Int.ofNat_eq_natCast]; omega

def openUp (a : Nat → Int) (n : Nat) : Nat → Nat → Nat
  | _, 0 => n
  | i, k + 1 => openUp a (if a i = 0 then n else bor n (pw i)) (i + 1) k
def openN (a : Nat → Int) : Nat := openUp a 0 0 6
theorem l110 (a : Nat → Int) (s : St) : ∀ (k i n : Nat), i + k = 6 → n < pw i →
    lim tbl (.loop a110_l0 21 ⟨[2, 8, 9], [2], []⟩ [i64 (Int.ofNat n), .agg (c6 a), i64 (Int.ofNat i)]) s = some (.exit 0, [i64 (Int.ofNat (openUp a n i k))], s) := by
  intro k
  induction k with
  | zero =>
    intro i n hi hn
    have h6 : ¬ Int.ofNat i < 6 := by simp; omega
    rw [openUp, lim_loop]
    obtain ⟨N, O, p, q⟩ := s
    (try simp only [go_sem, ↓reduceIte, Nat.reduceAdd, Nat.reduceEqDiff, Nat.reduceLT, Nat.reduceLeDiff, Nat.reduceBEq, Int.reduceEq, Int.reduceLT, Int.reduceLE]); (repeat ((first | rw [lt_n h6] | (rw [lt_yes]; rotate_left; (first | omega | (simp [lenOf, app]; omega) | (simp only [lenOf]; omega))) | (rw [lt_no]; rotate_left; (first | omega | (simp [lenOf, app]; omega) | (simp only [lenOf]; omega))) | (rw [idxA_at]; rotate_left; (first | omega | (simp [lenOf, app]; omega) | (simp only [lenOf]; omega))) | (rw [wr_up]; rotate_left; (first | omega | (simp [lenOf, app]; omega) | (simp only [lenOf]; omega))) | ((first | rw [drop_cI] | rw [drop_cE] | rw [drop_cS] | rw [drop_cP] | rw [drop_cR]); rotate_left; assumption)); try simp only [go_sem, ↓reduceIte, Nat.reduceAdd, Nat.reduceEqDiff, Nat.reduceLT, Nat.reduceLeDiff, Nat.reduceBEq, Int.reduceEq, Int.reduceLT, Int.reduceLE]))
  | succ k ih =>
    intro i n hi hn
    have h6 : Int.ofNat i < 6 := by simp; omega
    have hp := part_c6 a (j := i) (by omega)
    have hpw : pw i < 9223372036854775808 := pw_lt (by omega)
    have hix : idxA (i64 (Int.ofNat i)) 6 = some i := idxA_at (by omega)
    rw [openUp]
    by_cases hz : a i = 0
    · have h' := ih (i + 1) n (by omega) (pw_le hn)
      rw [if_pos hz, lim_loop]
      generalize hR : some (_, _, _) = R at h' ⊢
      obtain ⟨N, O, p, q⟩ := s
      (try simp only [go_sem, ↓reduceIte, Nat.reduceAdd, Nat.reduceEqDiff, Nat.reduceLT, Nat.reduceLeDiff, Nat.reduceBEq, Int.reduceEq, Int.reduceLT, Int.reduceLE]); (repeat ((first | rw [lt_y h6] | rw [hix] | rw [hp] | rw [eq_y hz] | (rw [lt_yes]; rotate_left; (first | omega | (simp [lenOf, app]; omega) | (simp only [lenOf]; omega))) | (rw [lt_no]; rotate_left; (first | omega | (simp [lenOf, app]; omega) | (simp only [lenOf]; omega))) | (rw [idxA_at]; rotate_left; (first | omega | (simp [lenOf, app]; omega) | (simp only [lenOf]; omega))) | (rw [wr_up]; rotate_left; (first | omega | (simp [lenOf, app]; omega) | (simp only [lenOf]; omega))) | ((first | rw [drop_cI] | rw [drop_cE] | rw [drop_cS] | rw [drop_cP] | rw [drop_cR]); rotate_left; assumption)); try simp only [go_sem, ↓reduceIte, Nat.reduceAdd, Nat.reduceEqDiff, Nat.reduceLT, Nat.reduceLeDiff, Nat.reduceBEq, Int.reduceEq, Int.reduceLT, Int.reduceLE]))
      exact h'
    · have h' := ih (i + 1) (bor n (pw i)) (by omega) (bor_lt hn)
      rw [if_neg hz, lim_loop]
      generalize hR : some (_, _, _) = R at h' ⊢
      obtain ⟨N, O, p, q⟩ := s
      (try simp only [go_sem, ↓reduceIte, Nat.reduceAdd, Nat.reduceEqDiff, Nat.reduceLT, Nat.reduceLeDiff, Nat.reduceBEq, Int.reduceEq, Int.reduceLT, Int.reduceLE]); (repeat ((first | rw [lt_y h6] | rw [hix] | rw [hp] | rw [eq_n hz] | (rw [shl1_at]; rotate_left; (omega)) | (rw [bits_or]; rotate_left; (omega; omega)) | (rw [lt_yes]; rotate_left; (first | omega | (simp [lenOf, app]; omega) | (simp only [lenOf]; omega))) | (rw [lt_no]; rotate_left; (first | omega | (simp [lenOf, app]; omega) | (simp only [lenOf]; omega))) | (rw [idxA_at]; rotate_left; (first | omega | (simp [lenOf, app]; omega) | (simp only [lenOf]; omega))) | (rw [wr_up]; rotate_left; (first | omega | (simp [lenOf, app]; omega) | (simp only [lenOf]; omega))) | ((first | rw [drop_cI] | rw [drop_cE] | rw [drop_cS] | rw [drop_cP] | rw [drop_cR]); rotate_left; assumption)); try simp only [go_sem, ↓reduceIte, Nat.reduceAdd, Nat.reduceEqDiff, Nat.reduceLT, Nat.reduceLeDiff, Nat.reduceBEq, Int.reduceEq, Int.reduceLT, Int.reduceLE]))
      exact h'
theorem k110 (a : Nat → Int) (m : Nat) (s : St) : lim tbl (.call 110 [.vref (c7 a m)]) s = some (.ret, [i64 (Int.ofNat (openN a))], s) := by
  rw [lim_call tbl_110]
  have h0 := l110 a s 6 0 0 (by omega) (by simp [pw])
  rw [ofNat_0] at h0
  change _ = some (_, [i64 (Int.ofNat (openN a))], _) at h0
  obtain ⟨N, O, p, q⟩ := s
  (try simp only [go_sem, ↓reduceIte, Nat.reduceAdd, Nat.reduceEqDiff, Nat.reduceLT, Nat.reduceLeDiff, Nat.reduceBEq, Int.reduceEq, Int.reduceLT, Int.reduceLE]); (repeat ((first | rw [h0] | (rw [lt_yes]; rotate_left; (first | omega | (simp [lenOf, app]; omega) | (simp only [lenOf]; omega))) | (rw [lt_no]; rotate_left; (first | omega | (simp [lenOf, app]; omega) | (simp only [lenOf]; omega))) | (rw [idxA_at]; rotate_left; (first | omega | (simp [lenOf, app]; omega) | (simp only [lenOf]; omega))) | (rw [wr_up]; rotate_left; (first | omega | (simp [lenOf, app]; omega) | (simp only [lenOf]; omega))) | ((first | rw [drop_cI] | rw [drop_cE] | rw [drop_cS] | rw [drop_cP] | rw [drop_cR]); rotate_left; assumption)); try simp only [go_sem, ↓reduceIte, Nat.reduceAdd, Nat.reduceEqDiff, Nat.reduceLT, Nat.reduceLeDiff, Nat.reduceBEq, Int.reduceEq, Int.reduceLT, Int.reduceLE]))
theorem openUp_lt (a : Nat → Int) : ∀ (k i n : Nat), n < pw i → openUp a n i k < pw (i + k)
  | 0, i, n, h => h
  | k + 1, i, n, h => by
    rw [openUp, show i + (k + 1) = (i + 1) + k by omega]
    apply openUp_lt
    split
    · exact pw_le h
    · exact bor_lt h
theorem openN_lt (a : Nat → Int) : openN a < 64 := openUp_lt a 6 0 0 (by simp [pw])

def sumUp (a : Nat → Int) (w : Nat) (n : Int) : Nat → Nat → Int
  | _, 0 => n
  | i, k + 1 => sumUp a w (if bmod (bshr w i) 2 = 1 then wr .i64 (Int.add n (a i)) else n) (i + 1) k
def sumA (a : Nat → Int) (w : Nat) : Int := sumUp a w 0 0 6
theorem l111 (a : Nat → Int) (w : Nat) (N : Nat) (O : List AObj) (o : AObj) (p : Nat) (q : Nat → Nat) : ∀ (k i : Nat) (n : Int), i + k = 6 →
    lim tbl (.loop a111_l0 30 ⟨[1, 4, 5, 13, 14], [4, 5], []⟩ [i64 (Int.ofNat w), .ptr N 0, .ptr (na N 1) 0, .agg (c6 a), i64 (Int.ofNat i)]) ⟨na (na N 1) 1, .cells [i64 (Int.ofNat w), i64 n] :: o :: O, p, q⟩
      = some (.exit 0, [.ptr N 0, .ptr (na N 1) 0], ⟨na (na N 1) 1, .cells [i64 (Int.ofNat w), i64 (sumUp a w n i k)] :: o :: O, p, q⟩) := by
  intro k
  induction k with
  | zero =>
    intro i n hi
    have h6 : ¬ Int.ofNat i < 6 := by simp; omega
    rw [sumUp, lim_loop]
    (try simp only [go_sem, ↓reduceIte, Nat.reduceAdd, Nat.reduceEqDiff, Nat.reduceLT, Nat.reduceLeDiff, Nat.reduceBEq, Int.reduceEq, Int.reduceLT, Int.reduceLE]); (repeat ((first | rw [lt_n h6] | (rw [lt_yes]; rotate_left; (first | omega | (simp [lenOf, app]; omega) | (simp only [lenOf]; omega))) | (rw [lt_no]; rotate_left; (first | omega | (simp [lenOf, app]; omega) | (simp only [lenOf]; omega))) | (rw [idxA_at]; rotate_left; (first | omega | (simp [lenOf, app]; omega) | (simp only [lenOf]; omega))) | (rw [wr_up]; rotate_left; (first | omega | (simp [lenOf, app]; omega) | (simp only [lenOf]; omega))) | ((first | rw [drop_cI] | rw [drop_cE] | rw [drop_cS] | rw [drop_cP] | rw [drop_cR]); rotate_left; assumption)); try simp only [go_sem, ↓reduceIte, Nat.reduceAdd, Nat.reduceEqDiff, Nat.reduceLT, Nat.reduceLeDiff, Nat.reduceBEq, Int.reduceEq, Int.reduceLT, Int.reduceLE]))
  | succ k ih =>
    intro i n hi
    have h6 : Int.ofNat i < 6 := by simp; omega
    have hp := part_c6 a (j := i) (by omega)
    have hix : idxA (i64 (Int.ofNat i)) 6 = some i := idxA_at (by omega)
    have hs : shrI (Int.ofNat w) (Int.ofNat i) = some (i64 (Int.ofNat (bshr w i))) := shr_at (by omega)
    have hr : remI (Int.ofNat (bshr w i)) 2 = some (i64 (Int.ofNat (bmod (bshr w i) 2))) := rem2_at _
    rw [sumUp]
    by_cases ht : bmod (bshr w i) 2 = 1
    · have h' := ih (i + 1) (wr .i64 (Int.add n (a i))) (by omega)
      rw [ht] at hr
      rw [if_pos ht, lim_loop]
      generalize hR : some (_, _, _) = R at h' ⊢
      (try simp only [go_sem, ↓reduceIte, Nat.reduceAdd, Nat.reduceEqDiff, Nat.reduceLT, Nat.reduceLeDiff, Nat.reduceBEq, Int.reduceEq, Int.reduceLT, Int.reduceLE]); (repeat ((first | rw [lt_y h6] | rw [hix] | rw [hp] | rw [hs] | rw [hr] | (rw [lt_yes]; rotate_left; (first | omega | (simp [lenOf, app]; omega) | (simp only [lenOf]; omega))) | (rw [lt_no]; rotate_left; (first | omega | (simp [lenOf, app]; omega) | (simp only [lenOf]; omega))) | (rw [idxA_at]; rotate_left; (first | omega | (simp [lenOf, app]; omega) | (simp only [lenOf]; omega))) | (rw [wr_up]; rotate_left; (first | omega | (simp [lenOf, app]; omega) | (simp only [lenOf]; omega))) | ((first | rw [drop_cI] | rw [drop_cE] | rw [drop_cS] | rw [drop_cP] | rw [drop_cR]); rotate_left; assumption)); try simp only [go_sem, ↓reduceIte, Nat.reduceAdd, Nat.reduceEqDiff, Nat.reduceLT, Nat.reduceLeDiff, Nat.reduceBEq, Int.reduceEq, Int.reduceLT, Int.reduceLE]))
      exact h'
    · have h' := ih (i + 1) n (by omega)
      have ht0 : bmod (bshr w i) 2 = 0 := by unfold bmod at *; omega
      rw [ht0] at hr
      rw [if_neg ht, lim_loop]
      generalize hR : some (_, _, _) = R at h' ⊢
      (try simp only [go_sem, ↓reduceIte, Nat.reduceAdd, Nat.reduceEqDiff, Nat.reduceLT, Nat.reduceLeDiff, Nat.reduceBEq, Int.reduceEq, Int.reduceLT, Int.reduceLE]); (repeat ((first | rw [lt_y h6] | rw [hix] | rw [hp] | rw [hs] | rw [hr] | (rw [lt_yes]; rotate_left; (first | omega | (simp [lenOf, app]; omega) | (simp only [lenOf]; omega))) | (rw [lt_no]; rotate_left; (first | omega | (simp [lenOf, app]; omega) | (simp only [lenOf]; omega))) | (rw [idxA_at]; rotate_left; (first | omega | (simp [lenOf, app]; omega) | (simp only [lenOf]; omega))) | (rw [wr_up]; rotate_left; (first | omega | (simp [lenOf, app]; omega) | (simp only [lenOf]; omega))) | ((first | rw [drop_cI] | rw [drop_cE] | rw [drop_cS] | rw [drop_cP] | rw [drop_cR]); rotate_left; assumption)); try simp only [go_sem, ↓reduceIte, Nat.reduceAdd, Nat.reduceEqDiff, Nat.reduceLT, Nat.reduceLeDiff, Nat.reduceBEq, Int.reduceEq, Int.reduceLT, Int.reduceLE]))
      exact h'
theorem k111 (a : Nat → Int) (m w : Nat) (s : St) : lim tbl (.call 111 [.vref (c7 a m), i64 (Int.ofNat w)]) s = some (.ret, [.agg [i64 (Int.ofNat w), i64 (sumA a w)]], s) := by
  rw [lim_call tbl_111]
  obtain ⟨N, O, p, q⟩ := s
  have h0 := l111 a w N O (.cells [i64 0, i64 0]) p q 6 0 0 (by omega)
  rw [ofNat_0] at h0
  change _ = some (_, _, (⟨_, .cells [_, i64 (sumA a w)] :: _, _, _⟩ : St)) at h0
  (try simp only [go_sem, ↓reduceIte, Nat.reduceAdd, Nat.reduceEqDiff, Nat.reduceLT, Nat.reduceLeDiff, Nat.reduceBEq, Int.reduceEq, Int.reduceLT, Int.reduceLE]); (repeat ((first | rw [h0] | (rw [lt_yes]; rotate_left; (first | omega | (simp [lenOf, app]; omega) | (simp only [lenOf]; omega))) | (rw [lt_no]; rotate_left; (first | omega | (simp [lenOf, app]; omega) | (simp only [lenOf]; omega))) | (rw [idxA_at]; rotate_left; (first | omega | (simp [lenOf, app]; omega) | (simp only [lenOf]; omega))) | (rw [wr_up]; rotate_left; (first | omega | (simp [lenOf, app]; omega) | (simp only [lenOf]; omega))) | ((first | rw [drop_cI] | rw [drop_cE] | rw [drop_cS] | rw [drop_cP] | rw [drop_cR]); rotate_left; assumption)); try simp only [go_sem, ↓reduceIte, Nat.reduceAdd, Nat.reduceEqDiff, Nat.reduceLT, Nat.reduceLeDiff, Nat.reduceBEq, Int.reduceEq, Int.reduceLT, Int.reduceLE]))

theorem l113 (m : Nat) (hm : m < pw 60) (N : Nat) (O : List AObj) (p : Nat) (q : Nat → Nat) : ∀ (k i : Nat) (acc : List Int), i + k = 60 → acc.length ≤ i →
   lim tbl (.loop a113_l0 20 ⟨[0, 2, 3], [2], []⟩ [i64 (Int.ofNat m), ownSl cI p acc, i64 (Int.ofNat i)]) ⟨N, O, roomP p (lenOf acc), roomC p q (lenOf acc)⟩
     = some (.exit 0, [ownSl cI p (app acc (upto (bitF m) i k))], ⟨N, O, roomP p (lenOf (app acc (upto (bitF m) i k))), roomC p q (lenOf (app acc (upto (bitF m) i k)))⟩) := by
  intro k
  induction k with
  | zero =>
    intro i acc hi ha
    have h0 : bshr m i = 0 := bshr_0 (by rw [show i = 60 by omega]; exact hm)
    have hs : shrI (Int.ofNat m) (Int.ofNat i) = some (i64 (Int.ofNat (bshr m i))) := shr_at (by omega)
    rw [h0] at hs
    rw [upto_0, app_nil, lim_loop]
    (try simp only [go_sem, ↓reduceIte, Nat.reduceAdd, Nat.reduceEqDiff, Nat.reduceLT, Nat.reduceLeDiff, Nat.reduceBEq, Int.reduceEq, Int.reduceLT, Int.reduceLE]); (repeat ((first | rw [hs] | (rw [lt_yes]; rotate_left; (first | omega | (simp [lenOf, app]; omega) | (simp only [lenOf]; omega))) | (rw [lt_no]; rotate_left; (first | omega | (simp [lenOf, app]; omega) | (simp only [lenOf]; omega))) | (rw [idxA_at]; rotate_left; (first | omega | (simp [lenOf, app]; omega) | (simp only [lenOf]; omega))) | (rw [wr_up]; rotate_left; (first | omega | (simp [lenOf, app]; omega) | (simp only [lenOf]; omega))) | ((first | rw [drop_cI] | rw [drop_cE] | rw [drop_cS] | rw [drop_cP] | rw [drop_cR]); rotate_left; assumption)); try simp only [go_sem, ↓reduceIte, Nat.reduceAdd, Nat.reduceEqDiff, Nat.reduceLT, Nat.reduceLeDiff, Nat.reduceBEq, Int.reduceEq, Int.reduceLT, Int.reduceLE]))
  | succ k ih =>
    intro i acc hi ha
    have hs : shrI (Int.ofNat m) (Int.ofNat i) = some (i64 (Int.ofNat (bshr m i))) := shr_at (by omega)
    by_cases h0 : bshr m i = 0
    · rw [h0] at hs
      rw [upto_bits_nil h0, app_nil, lim_loop]
      (try simp only [go_sem, ↓reduceIte, Nat.reduceAdd, Nat.reduceEqDiff, Nat.reduceLT, Nat.reduceLeDiff, Nat.reduceBEq, Int.reduceEq, Int.reduceLT, Int.reduceLE]); (repeat ((first | rw [hs] | (rw [lt_yes]; rotate_left; (first | omega | (simp [lenOf, app]; omega) | (simp only [lenOf]; omega))) | (rw [lt_no]; rotate_left; (first | omega | (simp [lenOf, app]; omega) | (simp only [lenOf]; omega))) | (rw [idxA_at]; rotate_left; (first | omega | (simp [lenOf, app]; omega) | (simp only [lenOf]; omega))) | (rw [wr_up]; rotate_left; (first | omega | (simp [lenOf, app]; omega) | (simp only [lenOf]; omega))) | ((first | rw [drop_cI] | rw [drop_cE] | rw [drop_cS] | rw [drop_cP] | rw [drop_cR]); rotate_left; assumption)); try simp only [go_sem, ↓reduceIte, Nat.reduceAdd, Nat.reduceEqDiff, Nat.reduceLT, Nat.reduceLeDiff, Nat.reduceBEq, Int.reduceEq, Int.reduceLT, Int.reduceLE]))
    have hpos : (0 : Int) < Int.ofNat (bshr m i) := by simp; omega
    have hr : remI (Int.ofNat (bshr m i)) 2 = some (i64 (Int.ofNat (bmod (bshr m i) 2))) := rem2_at _
    rw [upto_s, app_app]
    by_cases ht : bmod (bshr m i) 2 = 1
    · have hf : bitF m i = [Int.ofNat i] := by simp [bitF, ht]
      have h' := ih (i + 1) (app acc [Int.ofNat i]) (by omega) (by simp [app]; omega)
      have happ := append_own (f := cI) (sz := 1) (fun _ => rfl) 8 p q N O acc (Int.ofNat i) [i64 (Int.ofNat i)] rfl .full (by omega) (by omega)
      rw [ht] at hr
      rw [hf, lim_loop]
      generalize hR : some (_, _, _) = R at h' ⊢
      (try simp only [go_sem, ↓reduceIte, Nat.reduceAdd, Nat.reduceEqDiff, Nat.reduceLT, Nat.reduceLeDiff, Nat.reduceBEq, Int.reduceEq, Int.reduceLT, Int.reduceLE]); (repeat ((first | rw [hs] | rw [lt_y hpos] | rw [hr] | rw [happ] | (rw [lt_yes]; rotate_left; (first | omega | (simp [lenOf, app]; omega) | (simp only [lenOf]; omega))) | (rw [lt_no]; rotate_left; (first | omega | (simp [lenOf, app]; omega) | (simp only [lenOf]; omega))) | (rw [idxA_at]; rotate_left; (first | omega | (simp [lenOf, app]; omega) | (simp only [lenOf]; omega))) | (rw [wr_up]; rotate_left; (first | omega | (simp [lenOf, app]; omega) | (simp only [lenOf]; omega))) | ((first | rw [drop_cI] | rw [drop_cE] | rw [drop_cS] | rw [drop_cP] | rw [drop_cR]); rotate_left; assumption)); try simp only [go_sem, ↓reduceIte, Nat.reduceAdd, Nat.reduceEqDiff, Nat.reduceLT, Nat.reduceLeDiff, Nat.reduceBEq, Int.reduceEq, Int.reduceLT, Int.reduceLE]))
      exact h'
    · have hf : bitF m i = [] := by simp [bitF, ht]
      have h' := ih (i + 1) acc (by omega) (by omega)
      have ht0 : bmod (bshr m i) 2 = 0 := by unfold bmod at *; omega
      rw [ht0] at hr
      rw [hf, app_nil, lim_loop]
      generalize hR : some (_, _, _) = R at h' ⊢
      (try simp only [go_sem, ↓reduceIte, Nat.reduceAdd, Nat.reduceEqDiff, Nat.reduceLT, Nat.reduceLeDiff, Nat.reduceBEq, Int.reduceEq, Int.reduceLT, Int.reduceLE]); (repeat ((first | rw [hs] | rw [lt_y hpos] | rw [hr] | (rw [lt_yes]; rotate_left; (first | omega | (simp [lenOf, app]; omega) | (simp only [lenOf]; omega))) | (rw [lt_no]; rotate_left; (first | omega | (simp [lenOf, app]; omega) | (simp only [lenOf]; omega))) | (rw [idxA_at]; rotate_left; (first | omega | (simp [lenOf, app]; omega) | (simp only [lenOf]; omega))) | (rw [wr_up]; rotate_left; (first | omega | (simp [lenOf, app]; omega) | (simp only [lenOf]; omega))) | ((first | rw [drop_cI] | rw [drop_cE] | rw [drop_cS] | rw [drop_cP] | rw [drop_cR]); rotate_left; assumption)); try simp only [go_sem, ↓reduceIte, Nat.reduceAdd, Nat.reduceEqDiff, Nat.reduceLT, Nat.reduceLeDiff, Nat.reduceBEq, Int.reduceEq, Int.reduceLT, Int.reduceLE]))
      exact h'
theorem k113 (m : Nat) (hm : m < pw 60) (s : St) : lim tbl (.call 113 [i64 (Int.ofNat m)]) s = some (.ret, [sl cI (bitsOf m)], s) := by
  rw [lim_call tbl_113]; obtain ⟨N, O, p, q⟩ := s
  have h0 := l113 m hm N O p q 60 0 [] (by omega) (by simp)
  rw [nil_app, ownSl_nil, show lenOf ([] : List Int) = 0 from rfl, roomP_0, roomC_0, ofNat_0] at h0
  change _ = some (_, [ownSl cI p (bitsOf m)], (⟨N, O, roomP p (lenOf (bitsOf m)), roomC p q (lenOf (bitsOf m))⟩ : St)) at h0
  generalize bitsOf m = A at h0 ⊢
  (try simp only [go_sem, ↓reduceIte, Nat.reduceAdd, Nat.reduceEqDiff, Nat.reduceLT, Nat.reduceLeDiff, Nat.reduceBEq, Int.reduceEq, Int.reduceLT, Int.reduceLE]); (repeat ((first | rw [h0] | (rw [lt_yes]; rotate_left; (first | omega | (simp [lenOf, app]; omega) | (simp only [lenOf]; omega))) | (rw [lt_no]; rotate_left; (first | omega | (simp [lenOf, app]; omega) | (simp only [lenOf]; omega))) | (rw [idxA_at]; rotate_left; (first | omega | (simp [lenOf, app]; omega) | (simp only [lenOf]; omega))) | (rw [wr_up]; rotate_left; (first | omega | (simp [lenOf, app]; omega) | (simp only [lenOf]; omega))) | ((first | rw [drop_cI] | rw [drop_cE] | rw [drop_cS] | rw [drop_cP] | rw [drop_cR]); rotate_left; assumption)); try simp only [go_sem, ↓reduceIte, Nat.reduceAdd, Nat.reduceEqDiff, Nat.reduceLT, Nat.reduceLeDiff, Nat.reduceBEq, Int.reduceEq, Int.reduceLT, Int.reduceLE]))

def mostUp (g : Nat → Nat) (w n : Nat) : Nat → Nat → Nat
  | _, 0 => n
  | i, k + 1 => mostUp g w (if bmod (bshr w i) 2 = 1 then max n (g (bsub w (pw i))) else n) (i + 1) k
def mostF (a : Nat → Int) : Nat → Nat → Nat
  | 0, _ => 0
  | f + 1, w => if w = 0 then 0 else mostUp (mostF a f) w 0 0 6 + (if sumA a w = 0 then 1 else 0)
def mostN (a : Nat → Int) (w : Nat) : Nat := mostF a (w + 1) w
theorem bsub_lt {w i : Nat} (h : bmod (bshr w i) 2 = 1) : bsub w (pw i) < w := by
  have hb : w.testBit i = true := by
    rw [Nat.testBit_eq_decide_div_mod_eq, decide_eq_true_eq]
    unfold bmod bshr at h; rwa [Nat.shiftRight_eq_div_pow] at h
  have hle := bsub_le w (pw i)
  rcases Nat.lt_or_ge (bsub w (pw i)) w with h1 | h1
  · exact h1
  · exfalso
    have he : bsub w (pw i) = w := by omega
    have : (bsub w (pw i)).testBit i = false := by
      unfold bsub pw
      rw [Nat.testBit_and, Nat.testBit_xor, Nat.testBit_two_pow_self, hb]; rfl
    rw [he, hb] at this; cases this
theorem mostUp_congr {g g' : Nat → Nat} {w : Nat} (h : ∀ v, v < w → g v = g' v) : ∀ (k i n : Nat), mostUp g w n i k = mostUp g' w n i k
  | 0, _, _ => rfl
  | k + 1, i, n => by
    rw [mostUp, mostUp]
    by_cases ht : bmod (bshr w i) 2 = 1
    · rw [if_pos ht, if_pos ht, h _ (bsub_lt ht)]; exact mostUp_congr h k _ _
    · rw [if_neg ht, if_neg ht]; exact mostUp_congr h k _ _
theorem mostF_eq (a : Nat → Int) : ∀ (w f f' : Nat), w < f → w < f' → mostF a f w = mostF a f' w := by
  intro w
  induction w using Nat.strongRecOn with
  | _ w ih =>
    intro f f' h h'
    obtain ⟨f, rfl⟩ : ∃ g, f = g + 1 := ⟨f - 1, by omega⟩
    obtain ⟨f', rfl⟩ : ∃ g, f' = g + 1 := ⟨f' - 1, by omega⟩
    rw [mostF, mostF]
    by_cases hw : w = 0
    · simp [hw]
    · rw [if_neg hw, if_neg hw, mostUp_congr (g := mostF a f) (g' := mostF a f') (fun v hv => ih v hv f f' (by omega) (by omega))]
theorem mostN_eq (a : Nat → Int) (w : Nat) : mostN a w = if w = 0 then 0 else mostUp (mostN a) w 0 0 6 + (if sumA a w = 0 then 1 else 0) := by
  unfold mostN
  rw [mostF]
  by_cases hw : w = 0
  · simp [hw]
  · rw [if_neg hw, if_neg hw, mostUp_congr (g := mostF a w) (g' := fun w => mostF a (w + 1) w) (fun v hv => mostF_eq a v _ _ (by omega) (by omega))]
theorem mostUp_le (g : Nat → Nat) (w B : Nat) (h : ∀ v, v < w → g v ≤ B) : ∀ (k i n : Nat), n ≤ B → mostUp g w n i k ≤ B
  | 0, _, _, hn => hn
  | k + 1, i, n, hn => by
    rw [mostUp]
    apply mostUp_le g w B h
    split
    · rename_i ht; have := h _ (bsub_lt ht); omega
    · exact hn
theorem mostN_le (a : Nat → Int) (w : Nat) : mostN a w ≤ w := by
  induction w using Nat.strongRecOn with
  | _ w ih =>
    rw [mostN_eq]
    by_cases hw : w = 0
    · simp [hw]
    · rw [if_neg hw]
      have := mostUp_le (mostN a) w (w - 1) (fun v hv => by have := ih v hv; omega) 6 0 0 (by omega)
      split <;> omega
end Go.Proofs.Ytlhfeiacigmliaa

/- The wash-house's soap: what the functions compute: the greatest number of groups, and the fewest payments' number. -/
namespace Go.Proofs.Ytlhfeiacigmliaa
open Go
set_option maxRecDepth 10000
set_option linter.unusedSectionVars false

def lkF (zero : AVal) (s : St) : Option (Option (Nat × AVal)) → Option (AVal × St)
  | some none => some (.tup [zero, .bool false], s)
  | some (some (_, v)) => some (.tup [v, .bool true], s)
  | none => none
def lkM (zero : AVal) (s : St) (a b : Int) : Option AObj → Option (AVal × St)
  | some (.map true es) => lkF zero s (findA [0, 0] [i64 a, i64 b] es 0)
  | _ => none
def lkK (zero : AVal) (s : St) : AVal → AVal → Option (AVal × St)
  | .agg [.int .i64 a, .int .i64 b], .map n => lkM zero s a b (s.get n)
  | k, m => evalOp (fun _ _ => none) (.lookup true [0, 0] zero true (.const m) (.const k)) [] s
def muF (s : St) (n : Nat) (a b : Int) (v : AVal) (es : List (List AVal × AVal)) : Option (Option (Nat × AVal)) → Option (AVal × St)
  | some none => some (undefA, s.set n (.map true (es ++ [([i64 a, i64 b], v)])))
  | some (some (j, _)) => some (undefA, s.set n (.map true (es.modify j fun _ => ([i64 a, i64 b], v))))
  | none => none
def muM (s : St) (n : Nat) (a b : Int) (v : AVal) : Option AObj → Option (AVal × St)
  | some (.map true es) => muF s n a b v es (findA [0, 0] [i64 a, i64 b] es 0)
  | _ => none
def muK (s : St) (v : AVal) : AVal → AVal → Option (AVal × St)
  | .agg [.int .i64 a, .int .i64 b], .map n => muM s n a b v (s.get n)
  | k, m => evalOp (fun _ _ => none) (.mapUpdate true [0, 0] (.const m) (.const k) (.const v)) [] s
section
variable (H : Han) (fr : List AVal) (s : St) (zero v : AVal) (a b : Int) (n : Nat) (m k x : AOpd) (es : List (List AVal × AVal))
theorem kinds2 : kindsOk [0, 0] [AVal.int .i64 a, .int .i64 b] = true := rfl
theorem lookup_int : evalOp H (.lookup true [0, 0] zero true m k) fr s = (if kindsOk [0, 0] (k.eval fr).cells = false ∨ (k.eval fr).isAgg ≠ true then none else
    match m.eval fr with
    | .map b => match s.get b with
      | some (.map kagg' es) => if true ≠ kagg' then none else match findA [0, 0] (k.eval fr).cells es 0 with
        | some r =>
          let (v, h) := match r with | some (_, v) => (v, true) | none => (zero, false)
          some (if true then .tup [v, .bool h] else v, s)
        | none => none
      | _ => none
    | _ => none) := rfl
theorem update_int : evalOp H (.mapUpdate true [0, 0] m k x) fr s = (if kindsOk [0, 0] (k.eval fr).cells = false ∨ (k.eval fr).isAgg ≠ true then none else
    match m.eval fr with
    | .map b => match s.get b with
      | some (.map kagg' es) => if true ≠ kagg' then none else match findA [0, 0] (k.eval fr).cells es 0 with
        | some (some (i, _)) => some (undefA, s.set b (.map true (es.modify i fun _ => ((k.eval fr).cells, x.eval fr))))
        | some none => some (undefA, s.set b (.map true (es ++ [((k.eval fr).cells, x.eval fr)])))
        | none => none
      | _ => none
    | _ => none) := rfl
@[go_sem] theorem op_lookup : evalOp H (.lookup true [0, 0] zero true m k) fr s = lkK zero s (k.eval fr) (m.eval fr) := by
  unfold lkK
  split
  · rename_i a b n hk hm
    rw [lookup_int, hk, hm]
    simp only [AVal.cells, AVal.isAgg, kinds2, ne_eq, not_true_eq_false, or_false, Bool.true_eq_false, if_false]
    unfold lkM
    cases s.get n with
    | none => rfl
    | some o =>
      cases o with
      | map kagg es =>
        cases kagg with
        | false => rfl
        | true =>
          simp only [not_true_eq_false, if_false]
          unfold lkF
          cases findA [0, 0] [i64 a, i64 b] es 0 with
          | none => rfl
          | some r => cases r <;> rfl
      | _ => rfl
  · rfl
@[go_sem] theorem lkK_agg : lkK zero s (.agg [.int .i64 a, .int .i64 b]) (.map n) = lkM zero s a b (s.get n) := (rfl)
@[go_sem] theorem lkM_map : lkM zero s a b (some (.map true es)) = lkF zero s (findA [0, 0] [i64 a, i64 b] es 0) := (rfl)
@[go_sem] theorem lkF_none : lkF zero s (some none) = some (.tup [zero, .bool false], s) := (rfl)
@[go_sem] theorem lkF_some (j : Nat) : lkF zero s (some (some (j, v))) = some (.tup [v, .bool true], s) := (rfl)
@[go_sem] theorem op_update : evalOp H (.mapUpdate true [0, 0] m k x) fr s = muK s (x.eval fr) (k.eval fr) (m.eval fr) := by
  unfold muK
  split
  · rename_i a b n hk hm
    rw [update_int, hk, hm]
    simp only [AVal.cells, AVal.isAgg, kinds2, ne_eq, not_true_eq_false, or_false, Bool.true_eq_false, if_false]
    unfold muM
    cases s.get n with
    | none => rfl
    | some o =>
      cases o with
      | map kagg es =>
        cases kagg with
        | false => rfl
        | true =>
          simp only [not_true_eq_false, if_false]
          unfold muF
          cases findA [0, 0] [i64 a, i64 b] es 0 with
          | none => rfl
          | some r => cases r <;> rfl
      | _ => rfl
  · rfl
@[go_sem] theorem muK_agg : muK s v (.agg [.int .i64 a, .int .i64 b]) (.map n) = muM s n a b v (s.get n) := (rfl)
@[go_sem] theorem muM_map : muM s n a b v (some (.map true es)) = muF s n a b v es (findA [0, 0] [i64 a, i64 b] es 0) := (rfl)
@[go_sem] theorem muF_none : muF s n a b v es (some none) = some (.tup [], s.set n (.map true (es ++ [([i64 a, i64 b], v)]))) := (rfl)
@[go_sem] theorem muF_some (j : Nat) (v' : AVal) : muF s n a b v es (some (some (j, v'))) = some (.tup [], s.set n (.map true (es.modify j fun _ => ([i64 a, i64 b], v)))) := (rfl)
end

/-- What is noted in a purse's map is right. -/
def Memo (a : Nat → Int) (es : List (List AVal × AVal)) : Prop := ∀ x ∈ es, ∃ w : Nat, w < 64 ∧ x = ([i64 (Int.ofNat w), i64 (sumA a w)], i64 (Int.ofNat (mostN a w)))
theorem find_memo {a : Nat → Int} {w : Nat} : ∀ {es : List (List AVal × AVal)} (_ : Memo a es) (i : Nat), findA [0, 0] [i64 (Int.ofNat w), i64 (sumA a w)] es i = some none ∨ ∃ j, findA [0, 0] [i64 (Int.ofNat w), i64 (sumA a w)] es i = some (some (j, i64 (Int.ofNat (mostN a w))))
  | [], _, _ => Or.inl rfl
  | x :: es, h, i => by
    obtain ⟨w', hw, hx⟩ := h x (by simp)
    subst hx
    have ih := find_memo (w := w) (es := es) (fun y hy => h y (by simp [hy])) (i + 1)
    by_cases he : w = w'
    · subst he
      right
      refine ⟨i, ?_⟩
      simp [findA, eqCells, eqCell]
    · have hn : eqCells [0, 0] [i64 (Int.ofNat w), i64 (sumA a w)] [i64 (Int.ofNat w'), i64 (sumA a w')] = some false := by
        simp [eqCells, eqCell]
        intro h; exact absurd (by omega) he
      have hf : findA [0, 0] [i64 (Int.ofNat w), i64 (sumA a w)] (([i64 (Int.ofNat w'), i64 (sumA a w')], i64 (Int.ofNat (mostN a w'))) :: es) i = findA [0, 0] [i64 (Int.ofNat w), i64 (sumA a w)] es (i + 1) := by
        rw [findA, hn]
      rw [hf]; exact ih
theorem Memo.add {a : Nat → Int} {es : List (List AVal × AVal)} (h : Memo a es) {w : Nat} (hw : w < 64) : Memo a (es ++ [([i64 (Int.ofNat w), i64 (sumA a w)], i64 (Int.ofNat (mostN a w)))]) := fun x hx => by
  simp only [List.mem_append, List.mem_singleton] at hx
  rcases hx with hx | hx
  · exact h x hx
  · exact ⟨w, hw, hx⟩
theorem Memo.mod {a : Nat → Int} {es : List (List AVal × AVal)} (h : Memo a es) {w : Nat} (hw : w < 64) (j : Nat) : Memo a (es.modify j fun _ => ([i64 (Int.ofNat w), i64 (sumA a w)], i64 (Int.ofNat (mostN a w)))) := fun x hx => by
  obtain ⟨i, hi⟩ := List.mem_iff_getElem?.mp hx
  rw [List.getElem?_modify] at hi
  cases he : es[i]? with
  | none => rw [he] at hi; cases hi
  | some y =>
    rw [he] at hi
    have hi : (if j = i then (([i64 (Int.ofNat w), i64 (sumA a w)], i64 (Int.ofNat (mostN a w))) : List AVal × AVal) else y) = x := by
      exact Option.some.inj hi
    by_cases hj : j = i
    · rw [if_pos hj] at hi; exact ⟨w, hw, hi.symm⟩
    · rw [if_neg hj] at hi; subst hi; exact h _ (List.mem_of_getElem? he)
theorem Eff.trans {P : (Nat → Int) → List (List AVal × AVal) → Prop} {T : List Purse} {M : Nat} {Q : List AObj} {M1 : Nat} {Q1 : List AObj} {M2 : Nat} {Q2 : List AObj} (h : Eff P T M Q M1 Q1) (h' : Eff P T M1 Q1 M2 Q2) : Eff P T M Q M2 Q2 :=
  ⟨fun b o hb g => h'.keep b o hb (h.keep b o hb g), fun N0 O0 hn g => h'.old N0 O0 hn (h.old N0 O0 hn g), h'.maps⟩
theorem Eff.push {P : (Nat → Int) → List (List AVal × AVal) → Prop} {T : List Purse} {M : Nat} {Q : List AObj} {M' : Nat} {Q' : List AObj} (o : AObj) (h : Eff P T (na M 1) (o :: Q) M' Q') : Eff P T M Q M' Q' :=
  ⟨fun b o' hb g => h.keep b o' hb (gO_push g o), fun N0 O0 hn g => h.old N0 O0 hn (g.push o), h.maps⟩
section
variable (a : Nat → Int) (m : Nat) (p : Nat) (q : Nat → Nat)
def MostOk (w : Nat) : Prop := ∀ M Q, MapsOk Memo [(a, m)] M Q → ∃ M' Q', Eff Memo [(a, m)] M Q M' Q' ∧ lim tbl (.call 112 [.vref (c7 a m), i64 (Int.ofNat w)]) ⟨M, Q, p, q⟩ = some (.ret, [i64 (Int.ofNat (mostN a w))], ⟨M', Q', p, q⟩)
theorem l112 (w : Nat) (hw : w < 64) (ih : ∀ v, v < w → MostOk a m p q v) (b : Nat) (hb : b ≠ m) : ∀ (k i n : Nat) (M : Nat) (Q : List AObj), i + k = 6 → n ≤ 64 → MapsOk Memo [(a, m)] M Q → gO M Q b = some (.cells [i64 (Int.ofNat w), i64 (sumA a w)]) →
    ∃ M' Q', Eff Memo [(a, m)] M Q M' Q' ∧ lim tbl (.loop a112_l0 54 ⟨[0, 1, 5, 6, 25], [0, 5, 6], []⟩ [.vref (c7 a m), i64 (Int.ofNat w), .ptr b 0, i64 (Int.ofNat n), i64 (Int.ofNat i)]) ⟨M, Q, p, q⟩
      = some (.exit 0, [.vref (c7 a m), .ptr b 0, i64 (Int.ofNat (mostUp (mostN a) w n i k))], ⟨M', Q', p, q⟩) := by
  intro k
  induction k with
  | zero =>
    intro i n M Q hi hn hm hg
    have h6 : ¬ Int.ofNat i < 6 := by simp; omega
    refine ⟨M, Q, Eff.refl hm, ?_⟩
    rw [mostUp, lim_loop]
    (try simp only [go_sem, ↓reduceIte, Nat.reduceAdd, Nat.reduceEqDiff, Nat.reduceLT, Nat.reduceLeDiff, Nat.reduceBEq, Int.reduceEq, Int.reduceLT, Int.reduceLE]); (repeat ((first | rw [lt_n h6] | (rw [lt_yes]; rotate_left; (first | omega | (simp [lenOf, app]; omega) | (simp only [lenOf]; omega))) | (rw [lt_no]; rotate_left; (first | omega | (simp [lenOf, app]; omega) | (simp only [lenOf]; omega))) | (rw [idxA_at]; rotate_left; (first | omega | (simp [lenOf, app]; omega) | (simp only [lenOf]; omega))) | (rw [wr_up]; rotate_left; (first | omega | (simp [lenOf, app]; omega) | (simp only [lenOf]; omega))) | ((first | rw [drop_cI] | rw [drop_cE] | rw [drop_cS] | rw [drop_cP] | rw [drop_cR]); rotate_left; assumption)); try simp only [go_sem, ↓reduceIte, Nat.reduceAdd, Nat.reduceEqDiff, Nat.reduceLT, Nat.reduceLeDiff, Nat.reduceBEq, Int.reduceEq, Int.reduceLT, Int.reduceLE]))
  | succ k ihk =>
    intro i n M Q hi hn hm hg
    have h6 : Int.ofNat i < 6 := by simp; omega
    have hs : shrI (Int.ofNat w) (Int.ofNat i) = some (i64 (Int.ofNat (bshr w i))) := shr_at (by omega)
    have hr : remI (Int.ofNat (bshr w i)) 2 = some (i64 (Int.ofNat (bmod (bshr w i) 2))) := rem2_at _
    have hpw : pw i < 9223372036854775808 := pw_lt (by omega)
    rw [mostUp]
    by_cases ht : bmod (bshr w i) 2 = 1
    · obtain ⟨M1, Q1, hE, hc⟩ := ih _ (bsub_lt ht) M Q hm
      have hle := mostN_le a (bsub w (pw i))
      have hlt := bsub_lt ht
      obtain ⟨M', Q', hE', h'⟩ := ihk (i + 1) (max n (mostN a (bsub w (pw i)))) M1 Q1 (by omega) (by omega) hE.maps (hE.keep b _ (by simpa using hb) hg)
      refine ⟨M', Q', hE.trans hE', ?_⟩
      have hsub : bitsA .andNot .i64 (Int.ofNat w) (Int.ofNat (pw i)) = some (i64 (Int.ofNat (bsub w (pw i)))) := bits_sub (by omega) hpw
      have hsh : shlI 1 (Int.ofNat i) = some (i64 (Int.ofNat (pw i))) := shl1_at (by omega)
      have hmx := mx_nat n (mostN a (bsub w (pw i)))
      rw [ht] at hr
      rw [if_pos ht, lim_loop]
      generalize hR : some (_, _, _) = R at h' ⊢
      (try simp only [go_sem, ↓reduceIte, Nat.reduceAdd, Nat.reduceEqDiff, Nat.reduceLT, Nat.reduceLeDiff, Nat.reduceBEq, Int.reduceEq, Int.reduceLT, Int.reduceLE]); (repeat ((first | rw [lt_y h6] | rw [hs] | rw [hr] | rw [hsh] | rw [hsub] | rw [hc] | rw [hmx] | (rw [lt_yes]; rotate_left; (first | omega | (simp [lenOf, app]; omega) | (simp only [lenOf]; omega))) | (rw [lt_no]; rotate_left; (first | omega | (simp [lenOf, app]; omega) | (simp only [lenOf]; omega))) | (rw [idxA_at]; rotate_left; (first | omega | (simp [lenOf, app]; omega) | (simp only [lenOf]; omega))) | (rw [wr_up]; rotate_left; (first | omega | (simp [lenOf, app]; omega) | (simp only [lenOf]; omega))) | ((first | rw [drop_cI] | rw [drop_cE] | rw [drop_cS] | rw [drop_cP] | rw [drop_cR]); rotate_left; assumption)); try simp only [go_sem, ↓reduceIte, Nat.reduceAdd, Nat.reduceEqDiff, Nat.reduceLT, Nat.reduceLeDiff, Nat.reduceBEq, Int.reduceEq, Int.reduceLT, Int.reduceLE]))
      exact h'
    · have ht0 : bmod (bshr w i) 2 = 0 := by unfold bmod at *; omega
      obtain ⟨M', Q', hE', h'⟩ := ihk (i + 1) n M Q (by omega) hn hm hg
      refine ⟨M', Q', hE', ?_⟩
      rw [ht0] at hr
      rw [if_neg ht, lim_loop]
      generalize hR : some (_, _, _) = R at h' ⊢
      (try simp only [go_sem, ↓reduceIte, Nat.reduceAdd, Nat.reduceEqDiff, Nat.reduceLT, Nat.reduceLeDiff, Nat.reduceBEq, Int.reduceEq, Int.reduceLT, Int.reduceLE]); (repeat ((first | rw [lt_y h6] | rw [hs] | rw [hr] | (rw [lt_yes]; rotate_left; (first | omega | (simp [lenOf, app]; omega) | (simp only [lenOf]; omega))) | (rw [lt_no]; rotate_left; (first | omega | (simp [lenOf, app]; omega) | (simp only [lenOf]; omega))) | (rw [idxA_at]; rotate_left; (first | omega | (simp [lenOf, app]; omega) | (simp only [lenOf]; omega))) | (rw [wr_up]; rotate_left; (first | omega | (simp [lenOf, app]; omega) | (simp only [lenOf]; omega))) | ((first | rw [drop_cI] | rw [drop_cE] | rw [drop_cS] | rw [drop_cP] | rw [drop_cR]); rotate_left; assumption)); try simp only [go_sem, ↓reduceIte, Nat.reduceAdd, Nat.reduceEqDiff, Nat.reduceLT, Nat.reduceLeDiff, Nat.reduceBEq, Int.reduceEq, Int.reduceLT, Int.reduceLE]))
      exact h'
theorem k112 : ∀ w, w < 64 → MostOk a m p q w := by
  intro w
  induction w using Nat.strongRecOn with
  | _ w ih =>
    intro hw M Q hm
    have h111 := fun s => k111 a m w s
    obtain ⟨es, hmap, hmemo⟩ := hm (a, m) (by simp)
    simp only at hmap hmemo
    have hbm : M ≠ m := by have := gO_lt hmap; omega
    have hm1 := hm.push (.cells [i64 (Int.ofNat w), i64 (sumA a w)])
    by_cases hw0 : w = 0
    · subst hw0
      refine ⟨na M 1, .cells [i64 (Int.ofNat 0), i64 (sumA a 0)] :: Q, (Eff.refl hm1).push _, ?_⟩
      have h0 : mostN a 0 = 0 := by rw [mostN_eq]; rfl
      rw [h0, lim_call tbl_112]
      rw [ofNat_0] at h111 ⊢
      (try simp only [go_sem, ↓reduceIte, Nat.reduceAdd, Nat.reduceEqDiff, Nat.reduceLT, Nat.reduceLeDiff, Nat.reduceBEq, Int.reduceEq, Int.reduceLT, Int.reduceLE]); (repeat ((first | simp only [h111] | (rw [lt_yes]; rotate_left; (first | omega | (simp [lenOf, app]; omega) | (simp only [lenOf]; omega))) | (rw [lt_no]; rotate_left; (first | omega | (simp [lenOf, app]; omega) | (simp only [lenOf]; omega))) | (rw [idxA_at]; rotate_left; (first | omega | (simp [lenOf, app]; omega) | (simp only [lenOf]; omega))) | (rw [wr_up]; rotate_left; (first | omega | (simp [lenOf, app]; omega) | (simp only [lenOf]; omega))) | ((first | rw [drop_cI] | rw [drop_cE] | rw [drop_cS] | rw [drop_cP] | rw [drop_cR]); rotate_left; assumption)); try simp only [go_sem, ↓reduceIte, Nat.reduceAdd, Nat.reduceEqDiff, Nat.reduceLT, Nat.reduceLeDiff, Nat.reduceBEq, Int.reduceEq, Int.reduceLT, Int.reduceLE]))
    have hz : ¬ Int.ofNat w = 0 := by simp; omega
    have e1 : St.get ⟨na M 1, .cells [i64 (Int.ofNat w), i64 (sumA a w)] :: Q, p, q⟩ m = some (.map true es) := gO_push hmap _
    rcases find_memo (w := w) hmemo 0 with hf | ⟨j, hf⟩
    · obtain ⟨M1, Q1, hE, hl⟩ := l112 a m p q w hw (fun v hv => ih v hv (by omega)) M hbm 6 0 0 (na M 1) (.cells [i64 (Int.ofNat w), i64 (sumA a w)] :: Q) (by omega) (by omega) hm1 (gO_new ..)
      rw [ofNat_0] at hl
      have g1 := hE.keep M _ (by simpa using hbm) (gO_new M Q (.cells [i64 (Int.ofNat w), i64 (sumA a w)]))
      obtain ⟨es2, hmap2, hmemo2⟩ := hE.maps (a, m) (by simp)
      simp only at hmap2 hmemo2
      have e2 : St.get ⟨M1, Q1, p, q⟩ M = some (.cells [i64 (Int.ofNat w), i64 (sumA a w)]) := g1
      have e3 : St.get ⟨M1, Q1, p, q⟩ m = some (.map true es2) := hmap2
      have hmn : mostN a w = mostUp (mostN a) w 0 0 6 + (if sumA a w = 0 then 1 else 0) := by rw [mostN_eq, if_neg hw0]
      have hle := mostN_le a w
      have fin : ∀ es3, Memo a es3 → ∃ Q2, St.set ⟨M1, Q1, p, q⟩ m (.map true es3) = ⟨M1, Q2, p, q⟩ ∧ Eff Memo [(a, m)] M Q M1 Q2 := fun es3 h3 => by
        obtain ⟨Q2, s2, _, g2, g3, g4⟩ := gO_set hmap2 (.map true es3)
        refine ⟨Q2, s2 p q, fun b o hb g => ?_, fun N0 O0 hn g => ?_, fun x hx => ?_⟩
        · rw [g3 b (by simpa using hb)]
          exact hE.push.keep b o hb g
        · exact g4 N0 O0 (hE.push.old N0 O0 hn g) (by have := hn (a, m) (by simp); simpa using this)
        · simp only [List.mem_singleton] at hx
          subst hx
          exact ⟨es3, g2, h3⟩
      have stored : ∃ Q2, Eff Memo [(a, m)] M Q M1 Q2 ∧ muF ⟨M1, Q1, p, q⟩ m (Int.ofNat w) (sumA a w) (i64 (Int.ofNat (mostN a w))) es2 (findA [0, 0] [i64 (Int.ofNat w), i64 (sumA a w)] es2 0) = some (.tup [], ⟨M1, Q2, p, q⟩) := by
        rcases find_memo (w := w) hmemo2 0 with h2 | ⟨j2, h2⟩
        · obtain ⟨Q2, s2, hE2⟩ := fin _ (hmemo2.add hw)
          exact ⟨Q2, hE2, by rw [h2, muF_none, s2]⟩
        · obtain ⟨Q2, s2, hE2⟩ := fin _ (hmemo2.mod hw j2)
          exact ⟨Q2, hE2, by rw [h2, muF_some, s2]⟩
      obtain ⟨Q2, hE2, hst⟩ := stored
      refine ⟨M1, Q2, hE2, ?_⟩
      rw [lim_call tbl_112]
      by_cases hsum : sumA a w = 0
      · rw [if_pos hsum] at hmn
        have hup : wr .i64 (Int.add (Int.ofNat (mostUp (mostN a) w 0 0 6)) 1) = Int.ofNat (mostN a w) := by
          rw [hmn]; exact wr_up (by omega)
        generalize mostN a w = z at hst hup ⊢
        generalize mostUp (mostN a) w 0 0 6 = y at hl hup
        (try simp only [go_sem, ↓reduceIte, Nat.reduceAdd, Nat.reduceEqDiff, Nat.reduceLT, Nat.reduceLeDiff, Nat.reduceBEq, Int.reduceEq, Int.reduceLT, Int.reduceLE]); (repeat ((first | simp only [h111] | rw [eq_n hz] | rw [e1] | rw [hf] | rw [hl] | rw [e2] | rw [eq_y hsum] | rw [hup] | rw [e3] | rw [hst] | (rw [lt_yes]; rotate_left; (first | omega | (simp [lenOf, app]; omega) | (simp only [lenOf]; omega))) | (rw [lt_no]; rotate_left; (first | omega | (simp [lenOf, app]; omega) | (simp only [lenOf]; omega))) | (rw [idxA_at]; rotate_left; (first | omega | (simp [lenOf, app]; omega) | (simp only [lenOf]; omega))) | (rw [wr_up]; rotate_left; (first | omega | (simp [lenOf, app]; omega) | (simp only [lenOf]; omega))) | ((first | rw [drop_cI] | rw [drop_cE] | rw [drop_cS] | rw [drop_cP] | rw [drop_cR]); rotate_left; assumption)); try simp only [go_sem, ↓reduceIte, Nat.reduceAdd, Nat.reduceEqDiff, Nat.reduceLT, Nat.reduceLeDiff, Nat.reduceBEq, Int.reduceEq, Int.reduceLT, Int.reduceLE]))
      · rw [if_neg hsum, Nat.add_zero] at hmn
        rw [← hmn] at hl
        generalize mostN a w = z at hst hl ⊢
        (try simp only [go_sem, ↓reduceIte, Nat.reduceAdd, Nat.reduceEqDiff, Nat.reduceLT, Nat.reduceLeDiff, Nat.reduceBEq, Int.reduceEq, Int.reduceLT, Int.reduceLE]); (repeat ((first | simp only [h111] | rw [eq_n hz] | rw [e1] | rw [hf] | rw [hl] | rw [e2] | rw [eq_n hsum] | rw [e3] | rw [hst] | (rw [lt_yes]; rotate_left; (first | omega | (simp [lenOf, app]; omega) | (simp only [lenOf]; omega))) | (rw [lt_no]; rotate_left; (first | omega | (simp [lenOf, app]; omega) | (simp only [lenOf]; omega))) | (rw [idxA_at]; rotate_left; (first | omega | (simp [lenOf, app]; omega) | (simp only [lenOf]; omega))) | (rw [wr_up]; rotate_left; (first | omega | (simp [lenOf, app]; omega) | (simp only [lenOf]; omega))) | ((first | rw [drop_cI] | rw [drop_cE] | rw [drop_cS] | rw [drop_cP] | rw [drop_cR]); rotate_left; assumption)); try simp only [go_sem, ↓reduceIte, Nat.reduceAdd, Nat.reduceEqDiff, Nat.reduceLT, Nat.reduceLeDiff, Nat.reduceBEq, Int.reduceEq, Int.reduceLT, Int.reduceLE]))
    · refine ⟨na M 1, .cells [i64 (Int.ofNat w), i64 (sumA a w)] :: Q, (Eff.refl hm1).push _, ?_⟩
      rw [lim_call tbl_112]
      (try simp only [go_sem, ↓reduceIte, Nat.reduceAdd, Nat.reduceEqDiff, Nat.reduceLT, Nat.reduceLeDiff, Nat.reduceBEq, Int.reduceEq, Int.reduceLT, Int.reduceLE]); (repeat ((first | simp only [h111] | rw [eq_n hz] | rw [e1] | rw [hf] | (rw [lt_yes]; rotate_left; (first | omega | (simp [lenOf, app]; omega) | (simp only [lenOf]; omega))) | (rw [lt_no]; rotate_left; (first | omega | (simp [lenOf, app]; omega) | (simp only [lenOf]; omega))) | (rw [idxA_at]; rotate_left; (first | omega | (simp [lenOf, app]; omega) | (simp only [lenOf]; omega))) | (rw [wr_up]; rotate_left; (first | omega | (simp [lenOf, app]; omega) | (simp only [lenOf]; omega))) | ((first | rw [drop_cI] | rw [drop_cE] | rw [drop_cS] | rw [drop_cP] | rw [drop_cR]); rotate_left; assumption)); try simp only [go_sem, ↓reduceIte, Nat.reduceAdd, Nat.reduceEqDiff, Nat.reduceLT, Nat.reduceLeDiff, Nat.reduceBEq, Int.reduceEq, Int.reduceLT, Int.reduceLE]))
end
end Go.Proofs.Ytlhfeiacigmliaa
