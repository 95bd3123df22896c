/- Soundness of calls, rounds and loops, by the evaluator's depth; what a call gives. -/
import Derived.Test.YtlhfeiacigmliaaPartB
import Derived.Attr
set_option linter.all false
namespace Go.Proofs.Ytlhfeiacigmliaa
open Go

section
variable {P : Program}

/-- A block that is none of ours turns. -/
theorem Sim.other {ρ : Rho} {s : St} {w w' : World} {r : Nat} {o : Obj} (h : Sim P ρ s w) (hr : ¬ ρ.touch r) (hd : w.heap[r]? = some (.deferred (some []))) (hw : w'.heap = w.heap.setIfInBounds r o) : Sim P ρ s w' := by
  have hne : ∀ Q, Q ≠ r → w'.heap[Q]? = w.heap[Q]? := fun Q hQ => by rw [hw, Array.getElem?_setIfInBounds_ne (Ne.symm hQ)]
  have hsz : w'.heap.size = w.heap.size := by rw [hw]; simp
  refine ⟨h.inj, fun b R e => by rw [hsz]; exact h.mlt b R e, fun b R a e g => ?_, fun R off v e => ?_, h.free, fun p q e => by rw [hsz]; exact h.plt p q e, h.ver, h.pnm, fun p q e g => ?_, h.apart⟩
  · rw [hne R fun e' => hr (.inl ⟨b, e' ▸ e⟩)]; exact h.obj b R a e g
  · have h1 := h.imm R off v e
    have : R ≠ r := fun e' => by
      subst e'
      simp only [World.cell?, hd] at h1; cases h1
    rw [World.cell?_of_block (w := w) (a := ⟨R, off, none⟩) (hne R this)]; exact h1
  · rw [hne q.R fun e' => hr (.inr ⟨p, q, g, e'⟩)]; exact h.room p q e g

theorem Fwd.other {ρ : Rho} {w0 w w' : World} {ρ0 : Rho} {r : Nat} {o : Obj} (h : Fwd ρ0 w0 ρ w) (hb : w0.heap.size ≤ r) (hw : w'.heap = w.heap.setIfInBounds r o) (ho : w'.os = w.os := by rfl) (hp : w'.output = w.output := by rfl) : Fwd ρ0 w0 ρ w' :=
  ⟨h.le, h.new, by rw [hw]; simpa using h.size, fun R hR ht => by rw [hw, Array.getElem?_setIfInBounds_ne (by omega)]; exact h.kept R hR ht, ho.trans h.os, hp.trans h.output⟩

/-- The frame unwinds: no deferred call is there. -/
theorem unwind_ok {fn : FuncId} {tmps : Array Value} {todo : List Item} {cs : List Frame} : ∀ (rs : List Nat) {ρ0 ρ : Rho} {s : St} {w0 w : World}, Sim P ρ s w → Fwd ρ0 w0 ρ w → rs.Nodup →
    (∀ r ∈ rs, w0.heap.size ≤ r ∧ r < w.heap.size ∧ w.heap[r]? = some (.deferred (some [])) ∧ ¬ ρ.touch r) →
    ∃ w', Steps P (lone { fr8 fn tmps todo (rs.map coll) .normal none with mode := .returning } cs w) (lone { fr8 fn tmps todo [] .normal none with mode := .returning } cs w') ∧ Sim P ρ s w' ∧ Fwd ρ0 w0 ρ w'
  | [], ρ0, ρ, s, w0, w, hs, hf, _, _ => ⟨w, .refl _ _, hs, hf⟩
  | r :: rs, ρ0, ρ, s, w0, w, hs, hf, hn, h => by
    obtain ⟨h1, h2, h3, h4⟩ := h r (by simp)
    obtain ⟨hn1, hn2⟩ := List.nodup_cons.1 hn
    have hs' : Sim P ρ s { w with heap := w.heap.setIfInBounds r (.deferred none) } := hs.other h4 h3 rfl
    have hf' : Fwd ρ0 w0 ρ { w with heap := w.heap.setIfInBounds r (.deferred none) } := hf.other h1 rfl
    obtain ⟨w', g1, g2, g3⟩ := unwind_ok (fn := fn) (tmps := tmps) (todo := todo) (cs := cs) rs hs' hf' hn2 fun q hq => by
      obtain ⟨q1, q2, q3, q4⟩ := h q (by simp [hq])
      refine ⟨q1, by simpa using q2, ?_, q4⟩
      have hne : r ≠ q := fun e => hn1 (e ▸ hq)
      simp only [Array.getElem?_setIfInBounds_ne hne]; exact q3
    refine ⟨w', .head ?_ g1, g2, g3⟩
    refine step_lone_go ?_
    have hrun : (Instr.takeDeferred r).run P w = .ok [] { w with heap := w.heap.setIfInBounds r (.deferred none) } := by
      simp [Instr.takeDeferred, getObj, setObj, Sem.run, h3]
    simp only [fr8, List.map_cons]
    simp [stepG, unwind, coll, hrun]

def resVar (tmps : Array Value) : ResultVar → Sem Value
  | .tmp t => pure (tmps.getD t undef)
  | .cell a t => do loadVar t (← asAddr (tmps.getD a undef))
theorem results_eq (fn : Func) (tmps : Array Value) : results fn tmps = (do let vs ← fn.results.mapM (resVar tmps); pure (if h : vs.size = 1 then vs[0] else .tuple vs)) := by
  unfold results
  congr 2

theorem results_ok {ρ : Rho} {s : St} {w : World} {fr : List AVal} {tmps : Array Value} (hs : Sim P ρ s w) (hv : VRels ρ fr tmps.toList) :
    ∀ {rvs : List ResultVar} {rs : List ARes} {vs : List AVal}, rvs.mapM (cRes P) = some rs → rs.mapM (ARes.get fr s) = some vs →
      ∃ us, (rvs.mapM (resVar tmps)).run P w = .ok us w ∧ VRels ρ vs us
  | [], rs, vs, h1, h2 => by
    simp at h1; subst h1
    simp at h2; subst h2
    exact ⟨[], by simp, by simp [VRels]⟩
  | rv :: rvs, rs, vs, h1, h2 => by
    simp only [List.mapM_cons, Option.pure_def, Option.bind_eq_bind, Option.bind_eq_some_iff, Option.some.injEq] at h1
    obtain ⟨r, hr, rs', hrs, rfl⟩ := h1
    simp only [List.mapM_cons, Option.pure_def, Option.bind_eq_bind, Option.bind_eq_some_iff, Option.some.injEq] at h2
    obtain ⟨v, hvv, vs', hvs, rfl⟩ := h2
    obtain ⟨us, g1, g2⟩ := results_ok hs hv hrs hvs
    have key : ∃ u, (resVar tmps rv).run P w = .ok u w ∧ VRel ρ v u := by
      cases rv with
      | tmp t =>
        simp only [cRes, Option.some.injEq] at hr; subst hr
        simp only [ARes.get, Option.some.injEq] at hvv; subst hvv
        exact ⟨_, rfl, hv.trel t⟩
      | cell a t =>
        simp only [cRes, Option.pure_def, Option.bind_eq_bind, Option.bind_eq_some_iff] at hr
        obtain ⟨g, hg, hr⟩ := hr
        have ha := hv.trel a
        unfold TRel at ha
        cases g with
        | true =>
          simp only [if_true, Option.bind_eq_some_iff, Option.some.injEq] at hr
          obtain ⟨n, hn, rfl⟩ := hr
          simp only [ARes.get, readA, Option.map_eq_some_iff] at hvv
          obtain ⟨cs, hl, rfl⟩ := hvv
          obtain ⟨R, off, us', e1, e2, e3, e4⟩ := lookN_rel hs ha hl
          have hrl := run_loadCells_list (P := P) w (⟨R, off, none⟩ : Addr) us' e4
          rw [e3] at hrl
          refine ⟨.agg us'.toArray, ?_, by simp only [VRel]; exact ⟨_, rfl, by simpa using e2⟩⟩
          simp only [resVar, e1, asAddr, Sem.run_bind, Sem.run_pure, Result.andThen_ok, loadVar, run_isAgg hg, if_true, run_size hn, hrl]
        | false =>
          simp only [Bool.false_eq_true, if_false, Option.some.injEq] at hr
          subst hr
          simp only [ARes.get, readA] at hvv
          obtain ⟨ad, u, e1, e2, _, e4⟩ := look1_rel hs ha hvv
          refine ⟨u, ?_, e4⟩
          simp [resVar, e1, asAddr, loadVar, run_isAgg hg, e2]
    obtain ⟨u, k1, k2⟩ := key
    refine ⟨u :: us, ?_, by simp only [VRels]; exact ⟨u, us, rfl, k2, g2⟩⟩
    simp only [List.mapM_cons, Sem.run_bind]
    rw [k1]
    simp only [Result.andThen_ok, g1, Sem.run_pure]

theorem results_run {ρ : Rho} {s : St} {w : World} {fr : List AVal} {tmps : Array Value} (hs : Sim P ρ s w) (hv : VRels ρ fr tmps.toList) {fn : Func} {rs : List ARes} {v : AVal} (h1 : fn.results.toList.mapM (cRes P) = some rs) (h2 : resultsA rs fr s = some v) :
    ∃ u, (results fn tmps).run P w = .ok u w ∧ VRel ρ v u := by
  unfold resultsA at h2
  split at h2
  · rename_i v0 hm
    cases h2
    obtain ⟨us, g1, g2⟩ := results_ok hs hv h1 hm
    simp only [VRels] at g2
    obtain ⟨u, us', rfl, k1, rfl⟩ := g2
    refine ⟨u, ?_, k1⟩
    simp only [results_eq, Array.mapM_eq_mapM_toList, Sem.run_bind, Sem.run_map]
    rw [g1]
    simp
  · rename_i vs hne hm
    cases h2
    obtain ⟨us, g1, g2⟩ := results_ok hs hv h1 hm
    refine ⟨.tuple us.toArray, ?_, by simp only [VRel]; exact .inr ⟨_, rfl, by simpa using g2⟩⟩
    have hl := g2.length
    have : ¬ us.length = 1 := fun h => by
      rw [h] at hl
      obtain ⟨x, hx⟩ := List.length_eq_one_iff.1 hl.symm
      exact hne x hx
    simp only [results_eq, Array.mapM_eq_mapM_toList, Sem.run_bind, Sem.run_map]
    rw [g1]
    simp [this]
  · cases h2

theorem VRels.pad {ρ : Rho} {as : List AVal} {vs : List Value} (h : VRels ρ as vs) (n : Nat) : VRels ρ (as ++ List.replicate n undefA) (vs ++ List.replicate n undef) := by
  refine h.append ?_
  induction n with
  | zero => simp [VRels]
  | succ n ih => simp only [List.replicate_succ, VRels]; exact ⟨_, _, rfl, undef_rel ρ, ih⟩

theorem VRels.setAll {ρ : Rho} : ∀ {ps : List Nat} {args : List AVal} {vs : List Value} {fr : List AVal} {tmps : Array Value}, VRels ρ fr tmps.toList → VRels ρ args vs →
    VRels ρ (setAll fr ps args) ((ps.zip vs).foldl (fun (t : Array Value) (x : Nat × Value) => t.setIfInBounds x.1 x.2) tmps).toList
  | [], args, vs, fr, tmps, h, _ => by simpa [Ytlhfeiacigmliaa.setAll] using h
  | p :: ps, [], vs, fr, tmps, h, ha => by simp only [VRels] at ha; subst ha; simpa [Ytlhfeiacigmliaa.setAll] using h
  | p :: ps, a :: args, vs, fr, tmps, h, ha => by
    simp only [VRels] at ha
    obtain ⟨v, vs', rfl, h1, h2⟩ := ha
    simp only [Ytlhfeiacigmliaa.setAll, List.zip_cons_cons, List.foldl_cons]
    exact VRels.setAll (by rw [Array.toList_setIfInBounds]; exact h.set p h1) h2

mutual
theorem VRel.narrow {ρ ρ' ρ'' : Rho} (hm : ∀ b R, ρ.m b = some R → ρ'.m b = some R ∧ ρ''.m b = some R) (hI : ∀ R o v, ρ'.I R o = some v → ρ''.I R o = some v) (hp : ∀ p r, ρ.pm p = some r → ρ'.pm p = some r ∧ ρ''.pm p = some r) :
    ∀ (a : AVal) (u v : Value), VRel ρ a u → VRel ρ' a v → VRel ρ'' a v
  | .bool _, _, _, _, hv | .int _ _, _, _, _, hv | .str _, _, _, _, hv | .nilp, _, _, _, hv | .sl0, _, _, _, hv | .nilm, _, _, _, hv | .nilf, _, _, _, hv | .nili, _, _, _, hv => by simpa [VRel] using hv
  | .ptr b off, u, v, hu, hv => by
    simp only [VRel] at hu hv ⊢; obtain ⟨R, h1, h2⟩ := hv; obtain ⟨R', h3, h4⟩ := hu
    obtain ⟨h5, h6⟩ := hm _ _ h3; rw [h1] at h5; cases h5; exact ⟨R, h6, h2⟩
  | .map b, u, v, hu, hv => by
    simp only [VRel] at hu hv ⊢; obtain ⟨R, h1, h2⟩ := hv; obtain ⟨R', h3, h4⟩ := hu
    obtain ⟨h5, h6⟩ := hm _ _ h3; rw [h1] at h5; cases h5; exact ⟨R, h6, h2⟩
  | .yld b, u, v, hu, hv => by
    simp only [VRel] at hu hv ⊢; obtain ⟨R, h1, h2⟩ := hv; obtain ⟨R', h3, h4⟩ := hu
    obtain ⟨h5, h6⟩ := hm _ _ h3; rw [h1] at h5; cases h5; exact ⟨R, h6, h2⟩
  | .hsl b off len cap, u, v, hu, hv => by
    simp only [VRel] at hu hv ⊢; obtain ⟨R, c, h1, h2⟩ := hv; obtain ⟨R', c', h3, h4⟩ := hu
    obtain ⟨h5, h6⟩ := hm _ _ h3; rw [h1] at h5; cases h5; exact ⟨R, c, h6, h2⟩
  | .vref cs, u, v, hu, hv => by
    simp only [VRel] at hu hv ⊢; obtain ⟨R, off, h1, h2⟩ := hv; obtain ⟨R', off', h3, h4⟩ := hu
    exact ⟨R, off, h1, IRel.narrow hm hI hp cs _ _ _ _ h4 h2⟩
  | .vsl cs len perm, u, v, hu, hv => by
    simp only [VRel] at hu hv ⊢
    rcases hv with hv | ⟨R, off, cap, h1, h2, h3, h4⟩
    · exact .inl hv
    rcases hu with ⟨hc, h0, hno, _⟩ | ⟨R', off', cap', h5, h6, h7, h8⟩
    · subst hc
      refine .inr ⟨R, off, cap, h1, h2, trivial, ?_⟩
      cases perm with
      | no => trivial
      | full => exact h4
      | own p => exact absurd rfl (hno p)
    refine .inr ⟨R, off, cap, h1, h2, IRel.narrow hm hI hp cs _ _ _ _ h7 h3, ?_⟩
    cases perm with
    | no => trivial
    | full => exact h4
    | own p =>
      obtain ⟨q0, q1, sz, q2, q3⟩ := h4
      obtain ⟨_, _, sz', q4, q5⟩ := h8
      obtain ⟨q6, q7⟩ := hp _ _ q5
      rw [q3] at q6
      rw [← q6] at q7
      exact ⟨q0, q1, sz, q2, q7⟩
  | .fn f first cap, u, v, hu, hv => by
    simp only [VRel] at hu hv ⊢; obtain ⟨fs, cs, h1, h2, h3⟩ := hv; obtain ⟨fs', cs', h4, h5, h6⟩ := hu
    exact ⟨fs, cs, h1, VRels.narrow hm hI hp _ _ _ h5 h2, VRels.narrow hm hI hp _ _ _ h6 h3⟩
  | .iface t x, u, v, hu, hv => by
    simp only [VRel] at hu hv ⊢; obtain ⟨y, h1, h2⟩ := hv; obtain ⟨z, h3, h4⟩ := hu; exact ⟨y, h1, VRel.narrow hm hI hp x _ _ h4 h2⟩
  | .agg cs, u, v, hu, hv => by
    simp only [VRel] at hu hv ⊢; obtain ⟨vs, h1, h2⟩ := hv; obtain ⟨us, h3, h4⟩ := hu; exact ⟨vs, h1, CRel.narrow hm hI hp _ _ _ h4 h2⟩
  | .tup cs, u, v, hu, hv => by
    simp only [VRel] at hu hv ⊢
    rcases hv with hv | ⟨vs, h1, h2⟩
    · exact .inl hv
    · rcases hu with hu | ⟨us, h3, h4⟩
      · exact .inl hu
      · exact .inr ⟨vs, h1, VRels.narrow hm hI hp _ _ _ h4 h2⟩
theorem VRels.narrow {ρ ρ' ρ'' : Rho} (hm : ∀ b R, ρ.m b = some R → ρ'.m b = some R ∧ ρ''.m b = some R) (hI : ∀ R o v, ρ'.I R o = some v → ρ''.I R o = some v) (hp : ∀ p r, ρ.pm p = some r → ρ'.pm p = some r ∧ ρ''.pm p = some r) :
    ∀ (as : List AVal) (us vs : List Value), VRels ρ as us → VRels ρ' as vs → VRels ρ'' as vs
  | [], us, vs, _, hv => by simpa [VRels] using hv
  | a :: as, us, vs, hu, hv => by
    simp only [VRels] at hu hv ⊢
    obtain ⟨v, vs', h1, h2, h3⟩ := hv; obtain ⟨u, us', h4, h5, h6⟩ := hu
    exact ⟨v, vs', h1, VRel.narrow hm hI hp a _ _ h5 h2, VRels.narrow hm hI hp as _ _ h6 h3⟩
theorem CRel.narrow {ρ ρ' ρ'' : Rho} (hm : ∀ b R, ρ.m b = some R → ρ'.m b = some R ∧ ρ''.m b = some R) (hI : ∀ R o v, ρ'.I R o = some v → ρ''.I R o = some v) (hp : ∀ p r, ρ.pm p = some r → ρ'.pm p = some r ∧ ρ''.pm p = some r) :
    ∀ (as : List AVal) (us vs : List Value), CRel ρ as us → CRel ρ' as vs → CRel ρ'' as vs
  | [], us, vs, _, hv => by simpa [CRel] using hv
  | a :: as, us, vs, hu, hv => by
    simp only [CRel] at hu hv ⊢
    obtain ⟨v, vs', h1, h2, h3, h3'⟩ := hv; obtain ⟨u, us', h4, h5, h6, h6'⟩ := hu
    exact ⟨v, vs', h1, h2, VRel.narrow hm hI hp a _ _ h6 h3, CRel.narrow hm hI hp as _ _ h6' h3'⟩
theorem IRel.narrow {ρ ρ' ρ'' : Rho} (hm : ∀ b R, ρ.m b = some R → ρ'.m b = some R ∧ ρ''.m b = some R) (hI : ∀ R o v, ρ'.I R o = some v → ρ''.I R o = some v) (hp : ∀ p r, ρ.pm p = some r → ρ'.pm p = some r ∧ ρ''.pm p = some r) :
    ∀ (as : List AVal) (R0 off0 R off : Nat), IRel ρ as R0 off0 → IRel ρ' as R off → IRel ρ'' as R off
  | [], _, _, _, _, _, _ => by simp [IRel]
  | a :: as, R0, off0, R, off, hu, hv => by
    simp only [IRel] at hu hv ⊢
    obtain ⟨v, h1, h2, h3, h3'⟩ := hv; obtain ⟨u, h4, h5, h6, h6'⟩ := hu
    exact ⟨v, hI _ _ _ h1, h2, VRel.narrow hm hI hp a _ _ h6 h3, IRel.narrow hm hI hp as _ _ _ _ h6' h3'⟩
end

theorem ORel.narrow {ρ ρ' ρ'' : Rho} (hm : ∀ b R, ρ.m b = some R → ρ'.m b = some R ∧ ρ''.m b = some R) (hI : ∀ R o v, ρ'.I R o = some v → ρ''.I R o = some v) (hp : ∀ p r, ρ.pm p = some r → ρ'.pm p = some r ∧ ρ''.pm p = some r)
    {a : AObj} {o o' : Obj} (hu : ORel P ρ a o) (hv : ORel P ρ' a o') : ORel P ρ'' a o' := by
  cases a with
  | cells cs =>
    obtain ⟨vs, e, rest, h1, front, h2, h3⟩ := hv
    obtain ⟨_, _, _, _, _, _, h6⟩ := hu
    exact ⟨vs, e, rest, h1, front, h2, CRel.narrow hm hI hp _ _ _ h6 h3⟩
  | map kagg es =>
    obtain ⟨es', clock, h1, h2⟩ := hv
    obtain ⟨us', _, _, h4⟩ := hu
    refine ⟨es', clock, h1, ?_⟩
    clear h1
    generalize es'.toList = l at h2
    generalize us'.toList = l' at h4
    induction es generalizing l l' with
    | nil => exact h2
    | cons e es ih =>
      obtain ⟨x, xs, q1, ⟨q2, q2'⟩, q3, q4⟩ := h2
      obtain ⟨y, ys, _, ⟨r2, _⟩, r3, r4⟩ := h4
      exact ⟨x, xs, q1, ⟨CRel.narrow hm hI hp _ _ _ r2 q2, q2'⟩, VRel.narrow hm hI hp _ _ _ r3 q3, ih _ q4 _ r4⟩
  | loop L =>
    obtain ⟨r, h1, h2, h3, h4, h5⟩ := hv
    obtain ⟨_, _, _, _, h6, _⟩ := hu
    exact ⟨r, h1, h2, h3, VRels.narrow hm hI hp _ _ _ h6 h4, h5⟩

mutual
theorem VRel.weak {ρ ρ' : Rho} (hI : ∀ R o v, ρ.I R o = some v → ρ'.I R o = some v) : ∀ (a b : AVal) (v : Value), a.weak = some b → VRel ρ a v → VRel ρ' b v
  | .bool _, b, v, h, hv | .int _ _, b, v, h, hv | .str _, b, v, h, hv | .nilp, b, v, h, hv | .nilm, b, v, h, hv | .nilf, b, v, h, hv | .nili, b, v, h, hv => by
    simp only [AVal.weak, Option.some.injEq] at h; subst h; simpa [VRel] using hv
  | .ptr .., b, v, h, hv | .map _, b, v, h, hv | .yld _, b, v, h, hv | .hsl .., b, v, h, hv => by simp [AVal.weak] at h
  | .vref cs, b, v, h, hv => by
    simp only [AVal.weak, Option.map_eq_some_iff] at h; obtain ⟨cs', h1, rfl⟩ := h
    simp only [VRel] at hv ⊢; obtain ⟨R, off, h2, h3⟩ := hv; exact ⟨R, off, h2, IRel.weak hI _ _ _ _ h1 h3⟩
  | .sl0, b, v, h, hv => by
    simp only [AVal.weak, Option.some.injEq] at h; subst h; simp only [VRel] at hv ⊢; exact .inl ⟨trivial, trivial, by simp, hv⟩
  | .vsl cs len perm, b, v, h, hv => by
    simp only [AVal.weak, Option.map_eq_some_iff] at h; obtain ⟨cs', h1, rfl⟩ := h
    simp only [VRel] at hv ⊢
    rcases hv with ⟨rfl, rfl, _, h0⟩ | ⟨R, off, cap, h2, h3, h4, h5⟩
    · simp only [weaks, Option.some.injEq] at h1; exact .inl ⟨h1.symm, rfl, by simp, h0⟩
    · exact .inr ⟨R, off, cap, h2, h3, IRel.weak hI _ _ _ _ h1 h4, trivial⟩
  | .fn f a c, b, v, h, hv => by
    simp only [AVal.weak] at h
    split at h
    · rename_i a' c' h1 h2
      cases h
      simp only [VRel] at hv ⊢; obtain ⟨fs, cs, h3, h4, h5⟩ := hv
      exact ⟨fs, cs, h3, VRels.weak hI _ _ _ h1 h4, VRels.weak hI _ _ _ h2 h5⟩
    · cases h
  | .iface t x, b, v, h, hv => by
    simp only [AVal.weak, Option.map_eq_some_iff] at h; obtain ⟨y, h1, rfl⟩ := h
    simp only [VRel] at hv ⊢; obtain ⟨z, h2, h3⟩ := hv; exact ⟨z, h2, VRel.weak hI _ _ _ h1 h3⟩
  | .agg cs, b, v, h, hv => by
    simp only [AVal.weak, Option.map_eq_some_iff] at h; obtain ⟨cs', h1, rfl⟩ := h
    simp only [VRel] at hv ⊢; obtain ⟨vs, h2, h3⟩ := hv; exact ⟨vs, h2, CRel.weak hI _ _ _ h1 h3⟩
  | .tup cs, b, v, h, hv => by
    simp only [AVal.weak, Option.map_eq_some_iff] at h; obtain ⟨cs', h1, rfl⟩ := h
    simp only [VRel] at hv ⊢
    rcases hv with hv | ⟨vs, h2, h3⟩
    · subst hv; simp only [weaks, AVal.weak, Option.map_some, Option.some.injEq] at h1; exact .inl h1.symm
    · exact .inr ⟨vs, h2, VRels.weak hI _ _ _ h1 h3⟩
theorem VRels.weak {ρ ρ' : Rho} (hI : ∀ R o v, ρ.I R o = some v → ρ'.I R o = some v) : ∀ (as bs : List AVal) (vs : List Value), weaks as = some bs → VRels ρ as vs → VRels ρ' bs vs
  | [], bs, vs, h, hv => by simp only [weaks, Option.some.injEq] at h; subst h; simpa [VRels] using hv
  | a :: as, bs, vs, h, hv => by
    simp only [weaks] at h
    split at h
    · rename_i a' as' h1 h2
      cases h
      simp only [VRels] at hv ⊢; obtain ⟨v, vs', h3, h4, h5⟩ := hv
      exact ⟨v, vs', h3, VRel.weak hI _ _ _ h1 h4, VRels.weak hI _ _ _ h2 h5⟩
    · cases h
theorem CRel.weak {ρ ρ' : Rho} (hI : ∀ R o v, ρ.I R o = some v → ρ'.I R o = some v) : ∀ (as bs : List AVal) (vs : List Value), weaks as = some bs → CRel ρ as vs → CRel ρ' bs vs
  | [], bs, vs, h, hv => by simp only [weaks, Option.some.injEq] at h; subst h; simpa [CRel] using hv
  | a :: as, bs, vs, h, hv => by
    simp only [weaks] at h
    split at h
    · rename_i a' as' h1 h2
      cases h
      simp only [CRel] at hv ⊢; obtain ⟨v, vs', h3, h3', h4, h5⟩ := hv
      exact ⟨v, vs', h3, h3', VRel.weak hI _ _ _ h1 h4, CRel.weak hI _ _ _ h2 h5⟩
    · cases h
theorem IRel.weak {ρ ρ' : Rho} (hI : ∀ R o v, ρ.I R o = some v → ρ'.I R o = some v) : ∀ (as bs : List AVal) (R off : Nat), weaks as = some bs → IRel ρ as R off → IRel ρ' bs R off
  | [], bs, R, off, h, hv => by simp only [weaks, Option.some.injEq] at h; subst h; simp [IRel]
  | a :: as, bs, R, off, h, hv => by
    simp only [weaks] at h
    split at h
    · rename_i a' as' h1 h2
      cases h
      simp only [IRel] at hv ⊢; obtain ⟨v, h3, h3', h4, h5⟩ := hv
      exact ⟨v, hI _ _ _ h3, h3', VRel.weak hI _ _ _ h1 h4, IRel.weak hI _ _ _ _ h2 h5⟩
    · cases h
end

mutual
theorem VRel.norm {ρ : Rho} : ∀ (a : AVal) (v : Value), VRel ρ a v → VRel ρ a.norm v
  | .bool _, v, hv | .int _ _, v, hv | .str _, v, hv | .nilp, v, hv | .nilm, v, hv | .nilf, v, hv | .nili, v, hv
  | .ptr .., v, hv | .map _, v, hv | .yld _, v, hv | .hsl .., v, hv => by simpa only [AVal.norm] using hv
  | .vref cs, v, hv => by
    simp only [AVal.norm, VRel] at hv ⊢; obtain ⟨R, off, h2, h3⟩ := hv; exact ⟨R, off, h2, IRel.norm _ _ _ h3⟩
  | .sl0, v, hv => by simp only [AVal.norm, VRel] at hv ⊢; exact .inl ⟨trivial, trivial, by simp, hv⟩
  | .vsl cs len perm, v, hv => by
    simp only [AVal.norm, VRel] at hv ⊢
    rcases hv with ⟨rfl, rfl, _, h0⟩ | ⟨R, off, cap, h2, h3, h4, h5⟩
    · exact .inl ⟨rfl, rfl, by simp, h0⟩
    · exact .inr ⟨R, off, cap, h2, h3, IRel.norm _ _ _ h4, trivial⟩
  | .fn f a c, v, hv => by
    simp only [AVal.norm, VRel] at hv ⊢; obtain ⟨fs, cs, h3, h4, h5⟩ := hv
    exact ⟨fs, cs, h3, VRels.norm _ _ h4, VRels.norm _ _ h5⟩
  | .iface t x, v, hv => by
    simp only [AVal.norm, VRel] at hv ⊢; obtain ⟨z, h2, h3⟩ := hv; exact ⟨z, h2, VRel.norm _ _ h3⟩
  | .agg cs, v, hv => by
    simp only [AVal.norm, VRel] at hv ⊢; obtain ⟨vs, h2, h3⟩ := hv; exact ⟨vs, h2, CRel.norm _ _ h3⟩
  | .tup cs, v, hv => by
    simp only [AVal.norm, VRel] at hv ⊢
    rcases hv with hv | ⟨vs, h2, h3⟩
    · subst hv; exact .inl (by simp [norms, AVal.norm])
    · exact .inr ⟨vs, h2, VRels.norm _ _ h3⟩
theorem VRels.norm {ρ : Rho} : ∀ (as : List AVal) (vs : List Value), VRels ρ as vs → VRels ρ (norms as) vs
  | [], vs, hv => by simpa [norms, VRels] using hv
  | a :: as, vs, hv => by
    simp only [norms, VRels] at hv ⊢; obtain ⟨v, vs', h3, h4, h5⟩ := hv
    exact ⟨v, vs', h3, VRel.norm _ _ h4, VRels.norm _ _ h5⟩
theorem CRel.norm {ρ : Rho} : ∀ (as : List AVal) (vs : List Value), CRel ρ as vs → CRel ρ (norms as) vs
  | [], vs, hv => by simpa [norms, CRel] using hv
  | a :: as, vs, hv => by
    simp only [norms, CRel] at hv ⊢; obtain ⟨v, vs', h3, h3', h4, h5⟩ := hv
    exact ⟨v, vs', h3, h3', VRel.norm _ _ h4, CRel.norm _ _ h5⟩
theorem IRel.norm {ρ : Rho} : ∀ (as : List AVal) (R off : Nat), IRel ρ as R off → IRel ρ (norms as) R off
  | [], R, off, hv => by simp [norms, IRel]
  | a :: as, R, off, hv => by
    simp only [norms, IRel] at hv ⊢; obtain ⟨v, h3, h3', h4, h5⟩ := hv
    exact ⟨v, h3, h3', VRel.norm _ _ h4, IRel.norm _ _ _ h5⟩
end
theorem takes_rel {ρ : Rho} {gc : Option Nat} {as : List AVal} {vs : List Value} (h : VRels ρ as vs) : VRels ρ (takes gc as) vs := by
  unfold takes; split
  · exact VRels.norm _ _ h
  · exact h
theorem norms_length : ∀ as : List AVal, (norms as).length = as.length
  | [] => rfl
  | a :: as => by simp [norms, norms_length as]
theorem takes_length (gc : Option Nat) (as : List AVal) : (takes gc as).length = as.length := by
  unfold takes; split
  · exact norms_length as
  · rfl

theorem weaks_get : ∀ {as bs : List AVal}, weaks as = some bs → as.length = bs.length ∧ ∀ (i : Nat) (b : AVal), bs[i]? = some b → ∃ a, as[i]? = some a ∧ a.weak = some b
  | [], bs, h => by simp only [weaks, Option.some.injEq] at h; subst h; simp
  | a :: as, bs, h => by
    simp only [weaks] at h
    split at h
    · rename_i a' as' h1 h2
      cases h
      obtain ⟨h3, h4⟩ := weaks_get h2
      refine ⟨by simp [h3], fun i b hb => ?_⟩
      cases i with
      | zero => simp only [List.getElem?_cons_zero, Option.some.injEq] at hb; subst hb; exact ⟨a, rfl, h1⟩
      | succ i => simpa using h4 i b (by simpa using hb)
    · cases h

theorem Old.get {s s' : St} (h : Old s s') {b : Nat} (hb : b < s.n) : s'.get b = s.get b := by
  obtain ⟨h1, h2, _⟩ := h
  simp only [St.get, hb, if_true, show b < s'.n by omega]
  rw [← h2, List.getElem?_drop]
  congr 1; omega

open Classical in
/-- The relation's data, when all that is new is taken as it now is. -/
noncomputable def Rho.froz (ρ ρ' : Rho) (n : Nat) (w : World) : Rho :=
  { m := ρ.m, pm := ρ.pm, I := fun R off => if ∃ b, n ≤ b ∧ ρ'.m b = some R then w.cell? ⟨R, off, none⟩ else ρ'.I R off }

theorem froz_I {ρ ρ' : Rho} {s' : St} {n : Nat} {w' : World} (hs : Sim P ρ' s' w') (R o : Nat) (v : Value) (h : ρ'.I R o = some v) : (ρ.froz ρ' n w').I R o = some v := by
  simp only [Rho.froz]
  split
  · rename_i hx
    obtain ⟨b, _, hb⟩ := hx
    rw [hs.free b R hb o] at h; cases h
  · exact h

theorem Sim.forgot {ρ ρ' : Rho} {s s' : St} {w w' : World} (hs : Sim P ρ s w) (hs' : Sim P ρ' s' w') (hf : Fwd ρ w ρ' w') (ho : Old s s') : Sim P (ρ.froz ρ' s.n w') s w' ∧ Fwd ρ w (ρ.froz ρ' s.n w') w' := by
  have hm : ∀ b R, ρ.m b = some R → ρ'.m b = some R ∧ (ρ.froz ρ' s.n w').m b = some R := fun b R e => ⟨hf.le.m b R e, e⟩
  have hp : ∀ p r, ρ.pm p = some r → ρ'.pm p = some r ∧ (ρ.froz ρ' s.n w').pm p = some r := fun p r e => ⟨hf.le.pm p r e, e⟩
  have hnf : ∀ R, ρ.touch R → ¬ ∃ b, s.n ≤ b ∧ ρ'.m b = some R := by
    rintro R (⟨b', hb'⟩ | ⟨p, r, hpr, rfl⟩) ⟨b, hb, hbR⟩
    · have := hs'.inj b b' R hbR (hf.le.m _ _ hb')
      have := (hs.mlt b' R hb').1
      omega
    · exact hs'.pnm p r b (hf.le.pm _ _ hpr) hbR
  have hlv : ∀ p r, ρ.pm p = some r → s.lives p → s'.lives p := fun p r e h => ⟨by rw [ho.2.2 p.1 (hs.plt p r e).1]; exact h.1, h.2⟩
  refine ⟨⟨hs.inj, fun b R e => ⟨(hs.mlt b R e).1, (hs'.mlt b R (hf.le.m _ _ e)).2⟩, fun b R o e g => ?_, fun R off v e => ?_, fun b R e off => ?_, fun p r e => ⟨(hs.plt p r e).1, (hs'.plt p r (hf.le.pm _ _ e)).2⟩, hs.ver, hs.pnm, fun p r e g => ?_, fun p q r r' e e' g g' he => hs.apart p q r r' e e' g g' he⟩, ?_⟩
  · obtain ⟨o1, _, h2⟩ := hs.obj b R o e g
    obtain ⟨o2, h3, h4⟩ := hs'.obj b R o (hf.le.m _ _ e) (by rw [ho.get (hs.mlt b R e).1]; exact g)
    exact ⟨o2, h3, ORel.narrow hm (froz_I hs') hp h2 h4⟩
  · simp only [Rho.froz] at e
    split at e
    · exact e
    · exact hs'.imm R off v e
  · simp only [Rho.froz]
    rw [if_neg (hnf R (.inl ⟨b, e⟩))]
    exact hs'.free b R (hf.le.m _ _ e) off
  · obtain ⟨cs, e', h1, h2, h3⟩ := hs'.room p r (hlv p r g e) (hf.le.pm _ _ g)
    refine ⟨cs, e', h1, h2, fun off ho' => ?_⟩
    simp only [Rho.froz]
    rw [if_neg (hnf r.R (.inr ⟨p, r, g, rfl⟩))]
    exact h3 off ho'
  · exact ⟨⟨fun _ _ e => e, fun R o v e => froz_I hs' R o v (hf.le.I _ _ _ e), fun _ _ e => e⟩, fun R hR => .inl hR, hf.size, hf.kept, hf.os, hf.output⟩

theorem frz1_rel {ρ ρ' : Rho} {s s' : St} {w' : World} (hs' : Sim P ρ' s' w') {sz : Nat} {a b : AVal} {v : Value} (h : frz1 s.n s' sz a = some b) (hv : VRel ρ' a v) : VRel (ρ.froz ρ' s.n w') b v := by
  unfold frz1 at h
  split at h
  · rename_i b0 off len cap
    split at h
    · cases h
    · rename_i hb
      split at h
      · rename_i cs hg
        split at h
        · rename_i hlen
          simp only [Option.map_eq_some_iff] at h
          obtain ⟨cs', hw, rfl⟩ := h
          simp only [VRel] at hv ⊢
          obtain ⟨R, c, h1, h2, h3, _⟩ := hv
          obtain ⟨o, g1, vs, e, rest, rfl, front, g2, g3⟩ := hs'.obj _ _ _ h1 hg
          refine .inr ⟨R, off, c, h2, h3, IRel.of_get fun i a ha => ?_, trivial⟩
          obtain ⟨h5, h6⟩ := weaks_get hw
          obtain ⟨x, hx, hxa⟩ := h6 i a ha
          rw [List.getElem?_take] at hx
          split at hx
          · rename_i hi
            rw [List.getElem?_drop] at hx
            obtain ⟨u, hu, hu1, hu2⟩ := g3.get _ _ hx
            refine ⟨u, ?_, hu1, VRel.weak (froz_I hs') _ _ _ hxa hu2⟩
            simp only [Rho.froz]
            rw [if_pos ⟨b0, by omega, h1⟩]
            simp only [World.cell?, g1, Option.isSome_none, Bool.false_eq_true, if_false]
            rw [← Array.getElem?_toList, g2, List.getElem?_append_left (List.getElem?_eq_some_iff.1 hu).1]
            exact hu
          · cases hx
        · cases h
      · cases h
  · exact VRel.weak (froz_I hs') _ _ _ h hv

theorem frzs_rel {ρ ρ' : Rho} {s s' : St} {w' : World} (hs' : Sim P ρ' s' w') {sz : Nat} : ∀ {as bs : List AVal} {vs : List Value}, frzs s.n s' sz as = some bs → VRels ρ' as vs → VRels (ρ.froz ρ' s.n w') bs vs
  | [], bs, vs, h, hv => by simp only [frzs, Option.some.injEq] at h; subst h; simpa [VRels] using hv
  | a :: as, bs, vs, h, hv => by
    simp only [frzs] at h
    split at h
    · rename_i a' as' h1 h2
      cases h
      simp only [VRels] at hv ⊢; obtain ⟨v, vs', h3, h4, h5⟩ := hv
      exact ⟨v, vs', h3, frz1_rel hs' h1 h4, frzs_rel hs' h2 h5⟩
    · cases h

theorem frz_rel {ρ ρ' : Rho} {s s' : St} {w' : World} (hs' : Sim P ρ' s' w') {sz : Nat} {a b : AVal} {v : Value} (h : frz s.n s' sz a = some b) (hv : VRel ρ' a v) : VRel (ρ.froz ρ' s.n w') b v := by
  unfold frz at h
  split at h
  · rename_i vs
    simp only [Option.map_eq_some_iff] at h
    obtain ⟨bs, h1, rfl⟩ := h
    simp only [VRel] at hv ⊢
    rcases hv with hv | ⟨us, h2, h3⟩
    · subst hv
      simp only [frzs, frz1, AVal.weak, weaks, Option.map_some, Option.some.injEq] at h1
      exact .inl h1.symm
    · exact .inr ⟨us, h2, frzs_rel hs' h1 h3⟩
  · exact frz1_rel hs' h hv

/-- All cells that can be read are as they are. -/
def rho0 (W : World) : Rho := ⟨fun _ => none, fun R off => W.cell? ⟨R, off, none⟩, fun _ => none⟩
theorem sim0 (P : Program) (W : World) : Sim P (rho0 W) St.empty W where
  inj _ _ _ h := by cases h
  mlt _ _ h := by cases h
  obj _ _ _ h := by cases h
  imm _ _ _ h := h
  free _ _ h := by cases h
  plt _ _ h := by cases h
  ver _ _ h := by cases h
  pnm _ _ _ h := by cases h
  room _ _ _ h := by cases h
  apart _ _ _ _ _ _ h := by cases h
theorem mapO_get {f : AVal → Option AVal} : ∀ {as bs : List AVal}, mapO f as = some bs → as.length = bs.length ∧ ∀ (i : Nat) (b : AVal), bs[i]? = some b → ∃ a, as[i]? = some a ∧ f a = some b
  | [], bs, h => by simp only [mapO, Option.some.injEq] at h; subst h; simp
  | a :: as, bs, h => by
    simp only [mapO] at h
    split at h
    · rename_i a' as' h1 h2
      cases h
      obtain ⟨h3, h4⟩ := mapO_get h2
      refine ⟨by simp [h3], fun i b hb => ?_⟩
      cases i with
      | zero => simp only [List.getElem?_cons_zero, Option.some.injEq] at hb; subst hb; exact ⟨a, rfl, h1⟩
      | succ i => simpa using h4 i b (by simpa using hb)
    · cases h
theorem mapO_rel {f : AVal → Option AVal} {ρ ρ' : Rho} (hf : ∀ a b v, f a = some b → VRel ρ a v → VRel ρ' b v) : ∀ {as bs : List AVal} {vs : List Value}, mapO f as = some bs → VRels ρ as vs → VRels ρ' bs vs
  | [], bs, vs, h, hv => by simp only [mapO, Option.some.injEq] at h; subst h; simpa [VRels] using hv
  | a :: as, bs, vs, h, hv => by
    simp only [mapO] at h
    split at h
    · rename_i a' as' h1 h2
      cases h
      simp only [VRels] at hv ⊢; obtain ⟨v, vs', h3, h4, h5⟩ := hv
      exact ⟨v, vs', h3, hf _ _ _ h1 h4, mapO_rel hf h2 h5⟩
    · cases h
theorem mapO_crel {f : AVal → Option AVal} {ρ ρ' : Rho} (hf : ∀ a b v, f a = some b → VRel ρ a v → VRel ρ' b v) : ∀ {as bs : List AVal} {vs : List Value}, mapO f as = some bs → CRel ρ as vs → CRel ρ' bs vs
  | [], bs, vs, h, hv => by simp only [mapO, Option.some.injEq] at h; subst h; simpa [CRel] using hv
  | a :: as, bs, vs, h, hv => by
    simp only [mapO] at h
    split at h
    · rename_i a' as' h1 h2
      cases h
      simp only [CRel] at hv ⊢; obtain ⟨v, vs', h3, h4, h5, h6⟩ := hv
      exact ⟨v, vs', h3, h4, hf _ _ _ h1 h5, mapO_crel hf h2 h6⟩
    · cases h
theorem mapO_irel {f : AVal → Option AVal} {ρ ρ' : Rho} (hI : ∀ R o v, ρ.I R o = some v → ρ'.I R o = some v) (hf : ∀ a b v, f a = some b → VRel ρ a v → VRel ρ' b v) : ∀ {as bs : List AVal} {R off : Nat}, mapO f as = some bs → IRel ρ as R off → IRel ρ' bs R off
  | [], bs, R, off, h, hv => by simp only [mapO, Option.some.injEq] at h; subst h; simp [IRel]
  | a :: as, bs, R, off, h, hv => by
    simp only [mapO] at h
    split at h
    · rename_i a' as' h1 h2
      cases h
      simp only [IRel] at hv ⊢; obtain ⟨v, h3, h4, h5, h6⟩ := hv
      exact ⟨v, hI _ _ _ h3, h4, hf _ _ _ h1 h5, mapO_irel hI hf h2 h6⟩
    · cases h
theorem fzT_get {len : Nat} {cap : Option Nat} {cs : List AVal} {i : Nat} {a : AVal} (h : (fzT len cap cs)[i]? = some a) : cs[i]? = some a := by
  unfold fzT at h
  split at h
  · rw [List.getElem?_take] at h
    split at h
    · exact h
    · cases h
  · exact h
/-- The cells of a block, as they now are. -/
theorem block_irel {ρ : Rho} {s : St} {w : World} (hs : Sim P ρ s w) {f : AVal → Option AVal} (hf : ∀ a b v, f a = some b → VRel ρ a v → VRel (rho0 w) b v) {b R off : Nat} {cs cs' : List AVal} (hm : ρ.m b = some R) (hg : s.get b = some (.cells cs)) {as : List AVal} (has : ∀ (i : Nat) (a : AVal), as[i]? = some a → (cs.drop off)[i]? = some a) (h : mapO f as = some cs') : IRel (rho0 w) cs' R off := by
  obtain ⟨o, g1, vs, e, rest, rfl, front, g2, g3⟩ := hs.obj _ _ _ hm hg
  refine IRel.of_get fun i a ha => ?_
  obtain ⟨h5, h6⟩ := mapO_get h
  obtain ⟨x, hx, hxa⟩ := h6 i a ha
  have hx := has i x hx
  rw [List.getElem?_drop] at hx
  obtain ⟨u, hu, hu1, hu2⟩ := g3.get _ _ hx
  refine ⟨u, ?_, hu1, hf _ _ _ hxa hu2⟩
  simp only [rho0, World.cell?, g1, Option.isSome_none, Bool.false_eq_true, if_false]
  rw [← Array.getElem?_toList, g2, List.getElem?_append_left (List.getElem?_eq_some_iff.1 hu).1]
  exact hu
theorem fz_rel {ρ : Rho} {s : St} {w : World} (hs : Sim P ρ s w) : ∀ (n : Nat) (a b : AVal) (v : Value), fz n s a = some b → VRel ρ a v → VRel (rho0 w) b v
  | 0, a, b, v, h, _ => by simp [fz] at h
  | n + 1, a, b, v, h, hv => by
    have ih := fz_rel hs n
    have hI : ∀ R o v, ρ.I R o = some v → (rho0 w).I R o = some v := fun R o v h => hs.imm R o v h
    cases a with
    | ptr b0 off =>
      simp only [fz] at h
      split at h
      · rename_i cs hg
        simp only [Option.map_eq_some_iff] at h
        obtain ⟨cs', h1, rfl⟩ := h
        simp only [VRel] at hv ⊢
        obtain ⟨R, h2, h3⟩ := hv
        exact ⟨R, off, h3, block_irel hs ih h2 hg (fun _ _ h => h) h1⟩
      · cases h
    | hsl b0 off len cap =>
      simp only [fz] at h
      split at h
      · rename_i cs hg
        simp only [Option.map_eq_some_iff] at h
        obtain ⟨cs', h1, rfl⟩ := h
        simp only [VRel] at hv ⊢
        obtain ⟨R, c, h2, h3, h4, _⟩ := hv
        exact .inr ⟨R, off, c, h3, h4, block_irel hs ih h2 hg (fun i a h => fzT_get h) h1, trivial⟩
      · cases h
    | vref cs =>
      simp only [fz, Option.map_eq_some_iff] at h
      obtain ⟨cs', h1, rfl⟩ := h
      simp only [VRel] at hv ⊢
      obtain ⟨R, off, h2, h3⟩ := hv
      exact ⟨R, off, h2, mapO_irel hI ih h1 h3⟩
    | sl0 =>
      simp only [fz, Option.some.injEq] at h
      subst h
      simp only [VRel] at hv ⊢
      exact .inl ⟨trivial, trivial, by simp, hv⟩
    | vsl cs len perm =>
      simp only [fz, Option.map_eq_some_iff] at h
      obtain ⟨cs', h1, rfl⟩ := h
      simp only [VRel] at hv ⊢
      rcases hv with ⟨rfl, rfl, _, h0⟩ | ⟨R, off, cap, h2, h3, h4, _⟩
      · simp only [mapO, Option.some.injEq] at h1
        exact .inl ⟨h1.symm, rfl, by simp, h0⟩
      · exact .inr ⟨R, off, cap, h2, h3, mapO_irel hI ih h1 h4, trivial⟩
    | agg cs =>
      simp only [fz, Option.map_eq_some_iff] at h
      obtain ⟨cs', h1, rfl⟩ := h
      simp only [VRel] at hv ⊢
      obtain ⟨vs, h2, h3⟩ := hv
      exact ⟨vs, h2, mapO_crel ih h1 h3⟩
    | _ => first | (simp only [fz, Option.some.injEq] at h; subst h; simpa [VRel] using hv) | (simp [fz] at h)
/-- The relation's data, with all that is new taken as it now is. -/
noncomputable def Rho.iced (ρ : Rho) (n : Nat) (w : World) : Rho :=
  { m := ρ.m, pm := ρ.pm, I := fun R off => if n ≤ R then w.cell? ⟨R, off, none⟩ else ρ.I R off }
mutual
theorem fresh_rel {ρ ρ1 : Rho} {s1 : St} {w w1 : World} (h1 : Sim P ρ1 s1 w1) (hf : Fwd (rho0 w) w ρ1 w1) : ∀ (a b : AVal) (v : Value), a.fresh = true → a.weak = some b → VRel ρ1 a v → VRel (ρ.iced w.heap.size w1) b v
  | .bool _, b, v, _, h, hv | .int _ _, b, v, _, h, hv | .str _, b, v, _, h, hv | .nilp, b, v, _, h, hv | .nilm, b, v, _, h, hv | .nilf, b, v, _, h, hv | .nili, b, v, _, h, hv => by
    simp only [AVal.weak, Option.some.injEq] at h; subst h; simpa [VRel] using hv
  | .ptr .., b, v, hfr, h, hv | .map _, b, v, hfr, h, hv | .yld _, b, v, hfr, h, hv | .hsl .., b, v, hfr, h, hv => by simp [AVal.weak] at h
  | .vref cs, b, v, hfr, h, hv => by simp [AVal.fresh] at hfr
  | .fn .., b, v, hfr, h, hv => by simp [AVal.fresh] at hfr
  | .iface .., b, v, hfr, h, hv => by simp [AVal.fresh] at hfr
  | .sl0, b, v, _, h, hv => by
    simp only [AVal.weak, Option.some.injEq] at h; subst h; simp only [VRel] at hv ⊢; exact .inl ⟨trivial, trivial, by simp, hv⟩
  | .vsl cs len (.own p), b, v, hfr, h, hv => by
    simp only [AVal.weak, Option.map_eq_some_iff] at h; obtain ⟨cs', h2, rfl⟩ := h
    simp only [AVal.fresh] at hfr
    simp only [VRel] at hv ⊢
    rcases hv with ⟨_, _, h0, _⟩ | ⟨R, off, cap, h3, h4, h5, h6⟩
    · exact absurd rfl (h0 p)
    · obtain ⟨_, _, sz, _, h7⟩ := h6
      have hR : w.heap.size ≤ R := by
        rcases hf.new R (.inr ⟨_, _, h7, rfl⟩) with (⟨b, hb⟩ | ⟨p, r, hp, _⟩) | h
        · cases hb
        · cases hp
        · exact h
      exact .inr ⟨R, off, cap, h3, h4, fresh_irel h1 hf cs cs' R off hR hfr h2 h5, trivial⟩
  | .vsl (c :: cs) len .no, b, v, hfr, h, hv | .vsl (c :: cs) len .full, b, v, hfr, h, hv => by simp [AVal.fresh] at hfr
  | .vsl [] (len + 1) .no, b, v, hfr, h, hv | .vsl [] (len + 1) .full, b, v, hfr, h, hv => by simp [AVal.fresh] at hfr
  | .vsl [] 0 .no, b, v, hfr, h, hv | .vsl [] 0 .full, b, v, hfr, h, hv => by
    simp only [AVal.weak, weaks, Option.map_some, Option.some.injEq] at h; subst h
    simp only [VRel] at hv ⊢
    rcases hv with ⟨_, _, _, h0⟩ | ⟨R, off, cap, h3, h4, _, _⟩
    · exact .inl ⟨trivial, trivial, by simp, h0⟩
    · exact .inr ⟨R, off, cap, h3, h4, by simp [IRel], trivial⟩
  | .agg cs, b, v, hfr, h, hv => by
    simp only [AVal.weak, Option.map_eq_some_iff] at h; obtain ⟨cs', h2, rfl⟩ := h
    simp only [AVal.fresh] at hfr
    simp only [VRel] at hv ⊢; obtain ⟨vs, h3, h4⟩ := hv
    exact ⟨vs, h3, fresh_crel h1 hf cs cs' _ hfr h2 h4⟩
  | .tup cs, b, v, hfr, h, hv => by
    simp only [AVal.weak, Option.map_eq_some_iff] at h; obtain ⟨cs', h2, rfl⟩ := h
    simp only [AVal.fresh] at hfr
    simp only [VRel] at hv ⊢
    rcases hv with hv | ⟨vs, h3, h4⟩
    · subst hv
      simp only [weaks, AVal.weak, Option.map_some, Option.some.injEq] at h2
      exact .inl h2.symm
    · exact .inr ⟨vs, h3, fresh_vrel h1 hf cs cs' _ hfr h2 h4⟩
theorem fresh_vrel {ρ ρ1 : Rho} {s1 : St} {w w1 : World} (h1 : Sim P ρ1 s1 w1) (hf : Fwd (rho0 w) w ρ1 w1) : ∀ (as bs : List AVal) (vs : List Value), freshs as = true → weaks as = some bs → VRels ρ1 as vs → VRels (ρ.iced w.heap.size w1) bs vs
  | [], bs, vs, _, h, hv => by simp only [weaks, Option.some.injEq] at h; subst h; simpa [VRels] using hv
  | a :: as, bs, vs, hfr, h, hv => by
    simp only [freshs, Bool.and_eq_true] at hfr
    simp only [weaks] at h
    split at h
    · rename_i a' as' g1 g2
      cases h
      simp only [VRels] at hv ⊢; obtain ⟨v, vs', h3, h4, h5⟩ := hv
      exact ⟨v, vs', h3, fresh_rel h1 hf _ _ _ hfr.1 g1 h4, fresh_vrel h1 hf _ _ _ hfr.2 g2 h5⟩
    · cases h
theorem fresh_crel {ρ ρ1 : Rho} {s1 : St} {w w1 : World} (h1 : Sim P ρ1 s1 w1) (hf : Fwd (rho0 w) w ρ1 w1) : ∀ (as bs : List AVal) (vs : List Value), freshs as = true → weaks as = some bs → CRel ρ1 as vs → CRel (ρ.iced w.heap.size w1) bs vs
  | [], bs, vs, _, h, hv => by simp only [weaks, Option.some.injEq] at h; subst h; simpa [CRel] using hv
  | a :: as, bs, vs, hfr, h, hv => by
    simp only [freshs, Bool.and_eq_true] at hfr
    simp only [weaks] at h
    split at h
    · rename_i a' as' g1 g2
      cases h
      simp only [CRel] at hv ⊢; obtain ⟨v, vs', h3, h4, h5, h6⟩ := hv
      exact ⟨v, vs', h3, h4, fresh_rel h1 hf _ _ _ hfr.1 g1 h5, fresh_crel h1 hf _ _ _ hfr.2 g2 h6⟩
    · cases h
theorem fresh_irel {ρ ρ1 : Rho} {s1 : St} {w w1 : World} (h1 : Sim P ρ1 s1 w1) (hf : Fwd (rho0 w) w ρ1 w1) : ∀ (as bs : List AVal) (R off : Nat), w.heap.size ≤ R → freshs as = true → weaks as = some bs → IRel ρ1 as R off → IRel (ρ.iced w.heap.size w1) bs R off
  | [], bs, R, off, _, _, h, hv => by simp only [weaks, Option.some.injEq] at h; subst h; simp [IRel]
  | a :: as, bs, R, off, hR, hfr, h, hv => by
    simp only [freshs, Bool.and_eq_true] at hfr
    simp only [weaks] at h
    split at h
    · rename_i a' as' g1 g2
      cases h
      simp only [IRel] at hv ⊢; obtain ⟨v, h3, h4, h5, h6⟩ := hv
      refine ⟨v, ?_, h4, fresh_rel h1 hf _ _ _ hfr.1 g1 h5, fresh_irel h1 hf _ _ _ _ hR hfr.2 g2 h6⟩
      simp only [Rho.iced]
      rw [if_pos hR]
      exact h1.imm _ _ _ h3
    · cases h
end
theorem Sim.thawed {ρ ρ1 : Rho} {s : St} {w w1 : World} (hs : Sim P ρ s w) (hf : Fwd (rho0 w) w ρ1 w1) : Sim P (ρ.iced w.heap.size w1) s w1 ∧ Fwd ρ w (ρ.iced w.heap.size w1) w1 := by
  have hk : ∀ R, R < w.heap.size → w1.heap[R]? = w.heap[R]? := fun R hR => hf.kept R hR (by
    rintro (⟨b, hb⟩ | ⟨p, r, hp, _⟩)
    · cases hb
    · cases hp)
  have hI : ∀ R off v, ρ.I R off = some v → R < w.heap.size := by
    intro R off v h
    have := hs.imm R off v h
    rcases Nat.lt_or_ge R w.heap.size with g | g
    · exact g
    · simp only [World.cell?, Array.getElem?_eq_none g] at this
      cases this
  have hle : ρ.le (ρ.iced w.heap.size w1) := ⟨fun _ _ h => h, fun R off v h => by
    simp only [Rho.iced]
    rw [if_neg (by have := hI R off v h; omega)]; exact h, fun _ _ h => h⟩
  have hin : ∀ R off, R < w.heap.size → (ρ.iced w.heap.size w1).I R off = ρ.I R off := fun R off h => by simp only [Rho.iced]; rw [if_neg (by omega)]
  refine ⟨⟨hs.inj, fun b R e => ⟨(hs.mlt b R e).1, Nat.lt_of_lt_of_le (hs.mlt b R e).2 hf.size⟩, fun b R o e g => ?_, fun R off v e => ?_, fun b R e off => ?_, fun p r e => ⟨(hs.plt p r e).1, Nat.lt_of_lt_of_le (hs.plt p r e).2 hf.size⟩, hs.ver, hs.pnm, fun p r e g => ?_, hs.apart⟩, ⟨hle, fun R hR => .inl hR, hf.size, fun R hR _ => hk R hR, hf.os, hf.output⟩⟩
  · obtain ⟨o1, g1, g2⟩ := hs.obj b R o e g
    exact ⟨o1, by rw [hk R (hs.mlt b R e).2]; exact g1, g2.mono hle⟩
  · simp only [Rho.iced] at e
    split at e
    · exact e
    · have h2 := hs.imm R off v e
      simp only [World.cell?] at h2 ⊢
      rw [hk R (hI R off v e)]; exact h2
  · rw [hin R off (hs.mlt b R e).2]; exact hs.free b R e off
  · obtain ⟨cs, e', g1, g2, g3⟩ := hs.room p r e g
    have hlt := (hs.plt p r g).2
    exact ⟨cs, e', by rw [hk _ hlt]; exact g1, g2, fun off ho => by rw [hin _ _ hlt]; exact g3 off ho⟩

/-- A call, to the point where its frame leaves. -/
theorem call_leave {chk : St → St → Bool} (hchk : ∀ s s', chk s s' = true → Old s s') {tbl : Nat → Option AFun} (ht : TblOk P tbl) {n : Nat} (hC : CallOk P (evalReq chk tbl n)) (hR : RoundOk P (evalReq chk tbl n)) (hL : LoopOk P (evalReq chk tbl n)) {f : Nat} {args : List AVal} {s s' : St} {e : AExit} {vs : List AVal}
    (h : evalReq chk tbl (n + 1) (.call f args) s = some (e, vs, s')) : okBody P (f % 4096) = true ∧ ∃ v, vs = [v] ∧ ∀ ρ w args', Sim P ρ s w → VRels ρ args args' → ∀ cs,
      ∃ v' w' ρ' fr', Steps P (lone (Frame.enter P (f % 4096) args'.toArray .normal) cs w) (lone fr' cs w') ∧ fr'.leaving P w' (.returned v') ∧ fr'.fn = f % 4096 ∧ VRel ρ' v v' ∧ Sim P ρ' s' w' ∧ Fwd ρ w ρ' w' := by
  simp only [evalReq] at h
  split at h
  · cases h
  · rename_i F hF
    obtain ⟨fn, hint, kp, gc, hfn, hcf, hok⟩ := ht f F hF
    refine ⟨hok, ?_⟩
    unfold cFun at hcf
    split at hcf
    · rename_i c rs hbody hres
      cases hcf
      split at h
      · rename_i hi
        split at h
        · cases h
        · rename_i as hmo
          split at h
          · cases h
          · rename_i e1 fr1 s1 hne hev
            split at h
            · rename_i v hv
              split at h
              · rename_i hfr
                simp only [Option.map_eq_some_iff, Prod.mk.injEq] at h
                obtain ⟨v1, hfz, rfl, rfl, rfl⟩ := h
                refine ⟨v1, rfl, fun ρ w args' hs ha cs => ?_⟩
                have has : VRels (rho0 w) as args' := mapO_rel (fz_rel hs 8) hmo ha
                have hlen := has.length
                have hla := (mapO_get hmo).1
                have henter : Frame.enter P (f % 4096) args'.toArray .normal = fr8 (f % 4096) (args'.toArray ++ Array.replicate (fn.ntmps - args'.toArray.size) undef) [.code c] [] .normal none := by
                  simp [Frame.enter, fr8, hfn, hbody]
                rw [henter]
                have hvr : VRels (rho0 w) (as ++ List.replicate (fn.ntmps - args.length) undefA) (args'.toArray ++ Array.replicate (fn.ntmps - args'.toArray.size) undef).toList := by
                  have := has.pad (fn.ntmps - args.length)
                  simpa [hlen, hla] using this
                obtain ⟨ρ1, w1, t1, d1, g1, g2, g3, ⟨rs1, g4, g5, g6⟩, g7⟩ := code_ok hC hR hL c hint kp 1 false w.heap.size (f % 4096) [] [] .normal none cs hev (sim0 P w) hvr (DefOk.nil _ _ _) (Nat.le_refl _) (.inl rfl)
                have hret : ∃ todo, Steps P (lone (fr8 (f % 4096) (args'.toArray ++ Array.replicate (fn.ntmps - args'.toArray.size) undef) [.code c] [] .normal none) cs w) (lone { fr8 (f % 4096) t1 todo d1 .normal none with mode := .returning } cs w1) := by
                  cases e1 with
                  | normal => exact ⟨[], Steps.trans g7 (.one st_end)⟩
                  | exit id => exact (hne id rfl).elim
                  | ret => obtain ⟨k', g7⟩ := g7; exact ⟨_, Steps.trans g7 (.one st_ret)⟩
                obtain ⟨todo, hret⟩ := hret
                subst g4
                obtain ⟨w2, u1, u2, u3⟩ := unwind_ok (fn := f % 4096) (tmps := t1) (todo := todo) (cs := cs) rs1 g1 g2 g5 g6
                obtain ⟨u, q1, q2⟩ := results_run u2 g3 hres hv
                obtain ⟨k7, k8⟩ := hs.thawed u3
                exact ⟨u, w2, _, _, hret.trans u1, ⟨rfl, rfl, rfl, fn, hfn, q1⟩, rfl, fresh_rel u2 u3 _ _ _ hfr hfz q2, k7, k8⟩
              · cases h
            · cases h
          · cases h
      · rename_i hi
        split at h
        · cases h
        · rename_i e1 fr1 s1 hne hev
          split at h
          · rename_i v hv
            have key : ∀ ρ w args', Sim P ρ s w → VRels ρ args args' → ∀ cs,
                ∃ v' w' ρ' fr', Steps P (lone (Frame.enter P (f % 4096) args'.toArray .normal) cs w) (lone fr' cs w') ∧ fr'.leaving P w' (.returned v') ∧ fr'.fn = f % 4096 ∧ VRel ρ' v v' ∧ Sim P ρ' s1 w' ∧ Fwd ρ w ρ' w' := by
              intro ρ w args' hs ha cs
              have hlen := ha.length
              have henter : Frame.enter P (f % 4096) args'.toArray .normal = fr8 (f % 4096) (args'.toArray ++ Array.replicate (fn.ntmps - args'.toArray.size) undef) [.code c] [] .normal none := by
                simp [Frame.enter, fr8, hfn, hbody]
              rw [henter]
              have hvr : VRels ρ (takes gc args ++ List.replicate (fn.ntmps - args.length) undefA) (args'.toArray ++ Array.replicate (fn.ntmps - args'.toArray.size) undef).toList := by
                have := (takes_rel (gc := gc) ha).pad (fn.ntmps - args.length)
                simpa [hlen] using this
              obtain ⟨ρ1, w1, t1, d1, g1, g2, g3, ⟨rs1, g4, g5, g6⟩, g7⟩ := code_ok hC hR hL c hint kp 1 false w.heap.size (f % 4096) [] [] .normal none cs hev hs hvr (DefOk.nil _ _ _) (Nat.le_refl _) (.inl rfl)
              have hret : ∃ todo, Steps P (lone (fr8 (f % 4096) (args'.toArray ++ Array.replicate (fn.ntmps - args'.toArray.size) undef) [.code c] [] .normal none) cs w) (lone { fr8 (f % 4096) t1 todo d1 .normal none with mode := .returning } cs w1) := by
                cases e1 with
                | normal => exact ⟨[], Steps.trans g7 (.one st_end)⟩
                | exit id => exact (hne id rfl).elim
                | ret => obtain ⟨k', g7⟩ := g7; exact ⟨_, Steps.trans g7 (.one st_ret)⟩
              obtain ⟨todo, hret⟩ := hret
              subst g4
              obtain ⟨w2, u1, u2, u3⟩ := unwind_ok (fn := f % 4096) (tmps := t1) (todo := todo) (cs := cs) rs1 g1 g2 g5 g6
              obtain ⟨u, q1, q2⟩ := results_run u2 g3 hres hv
              exact ⟨u, w2, ρ1, _, hret.trans u1, ⟨rfl, rfl, rfl, fn, hfn, q1⟩, rfl, q2, u2, u3⟩
            split at h
            · cases h
              exact ⟨v, rfl, key⟩
            · rename_i sz hgc
              split at h
              · rename_i hck
                simp only [Option.map_eq_some_iff, Prod.mk.injEq] at h
                obtain ⟨v1, hfz, rfl, rfl, rfl⟩ := h
                refine ⟨v1, rfl, fun ρ w args' hs ha cs => ?_⟩
                obtain ⟨v', w', ρ', fr', k1, k2, k3, k4, k5, k6⟩ := key ρ w args' hs ha cs
                obtain ⟨k7, k8⟩ := hs.forgot k5 k6 (hchk _ _ hck)
                exact ⟨v', w', _, fr', k1, k2, k3, frz_rel k5 hfz k4, k7, k8⟩
              · cases h
          · cases h
        · cases h
    · cases hcf

theorem setAll_length : ∀ (ts : List Nat) (vs g : List AVal), (setAll g ts vs).length = g.length
  | [], _, g => by simp [setAll]
  | t :: ts, [], g => by simp [setAll]
  | t :: ts, v :: vs, g => by simp [setAll, setAll_length ts vs]
theorem fillK_length (n : Nat) (keep : List Nat) (vals : List AVal) : (fillK n keep vals).length = n := by simp [fillK, setAll_length]
theorem evalOps_length {H : Han} : ∀ (l : List AInstr) {fr fr' : List AVal} {s s' : St}, evalOps H l fr s = some (fr', s') → fr'.length = fr.length
  | [], fr, fr', s, s', h => by simp only [evalOps, Option.some.injEq, Prod.mk.injEq] at h; rw [h.1]
  | i :: l, fr, fr', s, s', h => by
    simp only [evalOps] at h
    split at h
    · cases h
    · split at h
      · split at h
        · rw [evalOps_length l h, putA_length]
        · cases h
      · rw [evalOps_length l h, putA_length]
theorem evalD_length {H : Han} : ∀ (l : List (AInstr × Nat × Nat)) {fr fr' : List AVal} {s s' : St} {sts : List St} {chks : List Chk}, evalD H l fr s sts chks = some (fr', s') → fr'.length = fr.length
  | [], fr, fr', s, s', sts, chks, h => by
    simp only [evalD] at h
    split at h
    · cases h; rfl
    · cases h
  | (i, lo, hi) :: l, fr, fr', s, s', sts, chks, h => by
    simp only [evalD] at h
    split at h
    · cases h
    · split at h
      · split at h
        · rw [evalD_length l h, putA_length]
        · cases h
      · rw [evalD_length l h, putA_length]
theorem evalCode_length {H : Han} : ∀ (c : ACode) {fr fr' : List AVal} {s s' : St} {e : AExit}, evalCode H c fr s = some (e, fr', s') → fr'.length = fr.length := by
  intro c
  induction c with
  | skip => intro fr fr' s s' e h; simp only [evalCode, Option.some.injEq, Prod.mk.injEq] at h; rw [h.2.1]
  | ops l =>
    intro fr fr' s s' e h
    simp only [evalCode] at h
    split at h
    · rename_i hl; cases h; exact evalOps_length l hl
    · cases h
  | dops l =>
    intro fr fr' s s' e h
    simp only [evalCode] at h
    split at h
    · rename_i hl; cases h; exact evalD_length l hl
    · cases h
  | seq a b iha ihb =>
    intro fr fr' s s' e h
    simp only [evalCode] at h
    split at h
    · rename_i ha; rw [ihb h, iha ha]
    · exact iha h
  | cond c a b iha ihb =>
    intro fr fr' s s' e h
    simp only [evalCode] at h
    split at h
    · exact iha h
    · exact ihb h
    · cases h
  | block id c ih =>
    intro fr fr' s s' e h
    simp only [evalCode] at h
    split at h
    · rename_i hc
      split at h
      · cases h; exact ih hc
      · cases h; exact ih hc
    · exact ih h
  | loop keep c ih =>
    intro fr fr' s s' e h
    simp only [evalCode] at h
    split at h
    · cases h; exact fillK_length _ _ _
    · cases h
  | rangeFunc f ps a b _ _ =>
    intro fr fr' s s' e h
    simp only [evalCode] at h
    split at h
    · split at h
      · split at h
        · cases h
        · split at h
          · split at h
            · cases h
            · split at h
              · cases h; rfl
              · cases h; rfl
          · cases h
      · cases h
    · cases h
  | exit id => intro fr fr' s s' e h; simp only [evalCode, Option.some.injEq, Prod.mk.injEq] at h; rw [h.2.1]
  | ret => intro fr fr' s s' e h; simp only [evalCode, Option.some.injEq, Prod.mk.injEq] at h; rw [h.2.1]
  | stuck => intro fr fr' s s' e h; simp [evalCode] at h

theorem req_ok {chk : St → St → Bool} (hchk : ∀ s s', chk s s' = true → Old s s') {tbl : Nat → Option AFun} (ht : TblOk P tbl) : ∀ n, CallOk P (evalReq chk tbl n) ∧ RoundOk P (evalReq chk tbl n) ∧ LoopOk P (evalReq chk tbl n)
  | 0 => ⟨fun f args s e vs s' h => by simp [evalReq] at h, fun l args s e vs s' h => by simp [evalReq] at h, fun c m keep vals s e vals' s' h => by simp [evalReq] at h⟩
  | n + 1 => by
    obtain ⟨hC, hR, hL⟩ := req_ok hchk ht n
    refine ⟨fun f args s e vs s' h => ?_, fun l args s e vs s' h => ?_, fun c m keep vals s e vals' s' h hint kp rnd pos c' hc base ρ w tmps fn k ds kind ro cs hs hv hd hb hro => ?_⟩
    · obtain ⟨h1, v, h2, h3⟩ := call_leave hchk ht hC hR hL h
      refine ⟨h1, v, h2, fun ρ w args' hs ha C cs => ?_⟩
      obtain ⟨v', w', ρ', fr', g1, g2, _, g4, g5, g6⟩ := h3 ρ w args' hs ha (C :: cs)
      exact ⟨v', w', ρ', g1.trans (.one (step_leave_returned g2)), g4, g5, g6⟩
    · simp only [evalReq] at h
      split at h
      · rename_i L hg
        split at h
        · cases h
        · rename_i hlen
          have hlen : args.length = L.params.length := Decidable.byContradiction hlen
          split at h
          · rename_i fr1 s1 hasg
            split at h
            · rename_i L1 hg1
              split at h
              · cases h
              · rename_i hready
                have hready : L1.state = .ready := Decidable.byContradiction hready
                split at h
                · rename_i e3 fr3 s3 hbody
                  split at h
                  · rename_i L3 hg3
                    cases h
                    refine ⟨_, rfl, fun ρ w args' hs ha R hm => ?_⟩
                    obtain ⟨o', ho', r, hoe, q1, q2, q3, q4, ⟨hi1, kp1, p1, q5⟩, ⟨hi2, kp2, p2, q6⟩⟩ := hs.obj _ _ _ hm hg
                    subst hoe
                    have hal := ha.length
                    have hsize : args'.toArray.size = r.params.size := by
                      have : r.params.size = L.params.length := by rw [← q4]; simp
                      simp [hal, this, hlen]
                    refine ⟨r.fn, (r.params.zip args'.toArray).foldl (fun tmps (t, a) => tmps.setIfInBounds t a) r.tmps, r.assign, r.body, ?_, fun C cs => ?_⟩
                    · simp [Instr.yield, run_getLoop ho', hal, hlen, ← q4]
                    · have htm : VRels ρ (setAll L.fr L.params args) ((r.params.zip args'.toArray).foldl (fun tmps (t, a) => tmps.setIfInBounds t a) r.tmps).toList := by
                        have := VRels.setAll (ps := L.params) q3 ha
                        rw [← q4] at this
                        rw [← q4, ← Array.foldl_toList, Array.toList_zip]
                        exact this
                      have henter : Frame.round R r.fn ((r.params.zip args'.toArray).foldl (fun tmps (t, a) => tmps.setIfInBounds t a) r.tmps) r.assign r.body .normal = fr8 r.fn ((r.params.zip args'.toArray).foldl (fun tmps (t, a) => tmps.setIfInBounds t a) r.tmps) [.code r.assign, .beginRound, .code r.body] [] .normal (some R) := rfl
                      rw [henter]
                      rw [← q5] at hasg
                      rw [← q6] at hbody
                      obtain ⟨ρ1, w1, t1, d1, a1, a2, a3, a4, a5⟩ := code_ok hC hR hL r.assign hi1 kp1 p1 true 0 r.fn [.beginRound, .code r.body] [] .normal (some R) (C :: cs) hasg hs htm (DefOk.nil _ _ _) (Nat.zero_le _) (.inr rfl)
                      have hm1 : ρ1.m l = some R := a2.le.m _ _ hm
                      obtain ⟨o1, ho1, r1, hoe1, b1, b2, b3, b4, b5, b6⟩ := a1.obj _ _ _ hm1 hg1
                      subst hoe1
                      have hst1 := st_beginRound (P := P) (fn := r.fn) (tmps := t1) (k := [.code r.body]) (ds := d1) (kind := .normal) (cs := C :: cs) ho1 (by rw [b1]; exact hready)
                      have hs2 := a1.put (w' := { w1 with heap := w1.heap.setIfInBounds R (.loop { r1 with state := .busy }) }) (a := .loop { L1 with state := .busy }) (o := .loop { r1 with state := .busy }) hm1 hg1 ⟨_, rfl, rfl, b2, b3, b4, b5, b6⟩ rfl
                      have hf2 : Fwd ρ1 w1 ρ1 { w1 with heap := w1.heap.setIfInBounds R (.loop { r1 with state := .busy }) } := Fwd.put hm1 rfl
                      obtain ⟨ρ3, w3, t3, d3, c1, c2, c3, c4, c5⟩ := code_ok hC hR hL r.body hi2 kp2 p2 true 0 r.fn [] d1 .normal (some R) (C :: cs) hbody hs2 (VRels.mono hf2.le _ _ a3) (a4.fwd hf2) (Nat.zero_le _) (.inr rfl)
                      have hm3 : ρ3.m l = some R := c2.le.m _ _ hm1
                      obtain ⟨o3, ho3, r3, hoe3, f1, f2, f3, f4, f5, f6⟩ := c1.obj _ _ _ hm3 hg3
                      subst hoe3
                      have hall := (a2.trans hf2).trans c2
                      have hpre : Steps P (lone (fr8 r.fn ((r.params.zip args'.toArray).foldl (fun tmps (t, a) => tmps.setIfInBounds t a) r.tmps) [.code r.assign, .beginRound, .code r.body] [] .normal (some R)) (C :: cs) w) (lone (fr8 r.fn t1 [.code r.body] d1 .normal (some R)) (C :: cs) { w1 with heap := w1.heap.setIfInBounds R (.loop { r1 with state := .busy }) }) := Steps.trans a5 (.one hst1)
                      cases e3 with
                      | normal =>
                        have hs4 := c1.put (w' := { w3 with heap := w3.heap.setIfInBounds R (.loop { r3 with state := .ready, pending := none }) }) (a := .loop { L3 with state := .ready, pending := none }) (o := .loop { r3 with state := .ready, pending := none }) hm3 hg3 ⟨_, rfl, rfl, rfl, f3, f4, f5, f6⟩ rfl
                        exact ⟨.bool true, _, ρ3, (hpre.trans c5).trans (.one (st_leave_end ho3)), by simp [pendOf, VRel], hs4, hall.trans (Fwd.put hm3 rfl)⟩
                      | ret =>
                        obtain ⟨k', c5⟩ := c5
                        have hs4 := c1.put (w' := { w3 with heap := w3.heap.setIfInBounds R (.loop { r3 with state := .done, pending := some .ret }) }) (a := .loop { L3 with state := .done, pending := some .ret }) (o := .loop { r3 with state := .done, pending := some .ret }) hm3 hg3 ⟨_, rfl, rfl, rfl, f3, f4, f5, f6⟩ rfl
                        exact ⟨.bool false, _, ρ3, (hpre.trans c5).trans (.one (st_leave_ret ho3)), by simp [pendOf, VRel], hs4, hall.trans (Fwd.put hm3 rfl)⟩
                      | exit id =>
                        obtain ⟨k', hk', c5⟩ := c5
                        have hs4 := c1.put (w' := { w3 with heap := w3.heap.setIfInBounds R (.loop { r3 with state := .done, pending := some (.exit id) }) }) (a := .loop { L3 with state := .done, pending := some (.exit id) }) (o := .loop { r3 with state := .done, pending := some (.exit id) }) hm3 hg3 ⟨_, rfl, rfl, rfl, f3, f4, f5, f6⟩ rfl
                        exact ⟨.bool false, _, ρ3, (hpre.trans c5).trans (.one (st_leave_exit ho3 (by rw [hk']; rfl))), by simp [pendOf, VRel], hs4, hall.trans (Fwd.put hm3 rfl)⟩
                  · cases h
                · cases h
            · cases h
          · cases h
      · cases h
    · subst hc
      simp only [evalReq] at h
      split at h
      · rename_i fr1 s1 hev
        have hfl : fr1.length = m := by rw [evalCode_length _ hev]; exact fillK_length _ _ _
        obtain ⟨ρ1, w1, t1, d1, g1, g2, g3, g4, g5⟩ := code_ok hC hR hL c' hint kp pos rnd base fn (.inLoop c' :: k) ds kind ro cs hev hs hv hd hb hro
        have g3' := g3.forget keep.head
        rw [hfl] at g3'
        obtain ⟨ρ2, w2, t2, d2, f1, f2, f3, f4, f5⟩ := hL _ _ _ _ _ _ _ _ h hint kp rnd pos c' rfl base ρ1 w1 t1 fn k d1 kind ro cs g1 g3' g4 (Nat.le_trans hb g2.size) hro
        exact ⟨ρ2, w2, t2, d2, f1, g2.trans f2, f3, f4, Out.of_steps (Steps.trans g5 (.one st_inLoop)) f5⟩
      · rename_i e1 fr1 s1 hn hev
        cases h
        have hfl : fr1.length = m := by rw [evalCode_length _ hev]; exact fillK_length _ _ _
        obtain ⟨ρ1, w1, t1, d1, g1, g2, g3, g4, g5⟩ := code_ok hC hR hL c' hint kp pos rnd base fn (.inLoop c' :: k) ds kind ro cs hev hs hv hd hb hro
        have g3' := g3.forget (keep.at_ e)
        rw [hfl] at g3'
        refine ⟨ρ1, w1, t1, d1, g1, g2, g3', g4, ?_⟩
        cases e with
        | normal => exact (hn rfl).elim
        | exit id => exact g5
        | ret => exact g5
      · cases h

/-- WHAT THE EVALUATOR RETURNS, THE CALL RETURNS. -/
theorem sound {chk : St → St → Bool} (hchk : ∀ s s', chk s s' = true → Old s s') {tbl : Nat → Option AFun} (ht : TblOk P tbl) {n f : Nat} {args : List AVal} {s s' : St} {e : AExit} {v : AVal} (h : evalReq chk tbl n (.call f args) s = some (e, [v], s')) {ρ : Rho} {w : World} {args' : Array Value}
    (hs : Sim P ρ s w) (ha : VRels ρ args args'.toList) : Calls P (f % 4096) args' w fun e w' => ∃ v' ρ', e = .returned v' ∧ VRel ρ' v v' ∧ Sim P ρ' s' w' ∧ Fwd ρ w ρ' w' := by
  cases n with
  | zero => simp [evalReq] at h
  | succ n =>
    obtain ⟨hC, hR, hL⟩ := req_ok hchk ht n
    obtain ⟨_, v1, h2, h3⟩ := call_leave hchk ht hC hR hL h
    cases h2
    intro cs
    obtain ⟨v', w', ρ', fr', g1, g2, g3, g4, g5, g6⟩ := h3 ρ w args'.toList hs ha cs
    have g1' : Steps P (lone (Frame.enter P (f % 4096) args' .normal) cs w) (lone fr' cs w') := by simpa using g1
    exact ⟨.returned v', w', fr', ⟨v', ρ', rfl, g4, g5, g6⟩, g1', g3, g2⟩
end
end Go.Proofs.Ytlhfeiacigmliaa

/- The evaluator without a depth: a call's value, if it has one at some depth. -/
namespace Go.Proofs.Ytlhfeiacigmliaa
open Go

/-- Short names for the texts that a program prints. -/
abbrev i64 (n : Int) : AVal := .int .i64 n
abbrev t (n : Nat) : AOpd := .tmp n
abbrev c (v : AVal) : AOpd := .const v

def mkTbl : List (Nat × AFun) → Nat → Option AFun
  | [], _ => none
  | (k, F) :: l, j => if j = k then some F else mkTbl l j

theorem TblOk.nil {P : Program} : TblOk P (mkTbl []) := fun k F h => by simp [mkTbl] at h
theorem TblOk.cons {P : Program} {k i : Nat} {F : AFun} {fn : Func} {hint : Nat → Nat} {kp : Nat → Keep} {gc : Option Nat} {l : List (Nat × AFun)} (h1 : P.funcs[i]? = some fn) (h2 : cFun P hint kp gc fn = some F) (h3 : okBody P i = true) (hl : TblOk P (mkTbl l)) (hk : k % 4096 = i := by rfl) :
    TblOk P (mkTbl ((k, F) :: l)) := by
  intro j G h
  simp only [mkTbl] at h
  split at h
  · rename_i hj; cases h; subst hj; rw [hk]; exact ⟨fn, hint, kp, gc, h1, h2, h3⟩
  · exact hl j G h

def Han.le (H H' : Han) : Prop := ∀ q s r, H q s = some r → H' q s = some r

def Chain (E : Nat → Han) (L : Han) : Prop := (∀ m, (E m).le (E (m + 1))) ∧ ∀ q s r, L q s = some r ↔ ∃ m, E m q s = some r

theorem Chain.up {E : Nat → Han} {L : Han} (h : Chain E L) : ∀ (k m : Nat), (E m).le (E (m + k))
  | 0, _ => fun _ _ _ h => h
  | k + 1, m => fun q s r e => h.1 (m + k) q s r (h.up k m q s r e)
theorem Chain.top {E : Nat → Han} {L : Han} (h : Chain E L) (m : Nat) : (E m).le L := fun q s r e => (h.2 q s r).2 ⟨m, e⟩

/-- A piece of the evaluator asks but finitely often. -/
structure Cont {α : Type} (F : Han → Option α) : Prop where
  mono : ∀ H H', H.le H' → ∀ r, F H = some r → F H' = some r
  fin : ∀ E L, Chain E L → ∀ r, F L = some r → ∃ m, F (E m) = some r

theorem Cont.const {α : Type} (x : Option α) : Cont fun _ => x := ⟨fun _ _ _ _ h => h, fun _ _ _ _ h => ⟨0, h⟩⟩
theorem Cont.req (q : Req) (s : St) : Cont fun H => H q s := ⟨fun _ _ hle r h => hle q s r h, fun _ _ hc r h => (hc.2 q s r).1 h⟩
theorem Cont.bind {α β : Type} {F : Han → Option α} {G : α → Han → Option β} (hF : Cont F) (hG : ∀ a, Cont (G a)) : Cont fun H => (F H).bind fun a => G a H := by
  refine ⟨fun H H' hle r h => ?_, fun E L hc r h => ?_⟩
  · simp only [Option.bind_eq_some_iff] at h ⊢
    obtain ⟨a, h1, h2⟩ := h
    exact ⟨a, hF.mono H H' hle a h1, (hG a).mono H H' hle r h2⟩
  · simp only [Option.bind_eq_some_iff] at h ⊢
    obtain ⟨a, h1, h2⟩ := h
    obtain ⟨m1, g1⟩ := hF.fin E L hc a h1
    obtain ⟨m2, g2⟩ := (hG a).fin E L hc r h2
    exact ⟨m1 + m2, a, hF.mono _ _ (hc.up m2 m1) a g1, (hG a).mono _ _ (by rw [Nat.add_comm]; exact hc.up m1 m2) r g2⟩
theorem Cont.congr {α : Type} {F G : Han → Option α} (h : Cont F) (e : ∀ H, G H = F H) : Cont G := by
  have : G = F := funext e
  rw [this]; exact h
theorem Cont.ite {α : Type} {p : Prop} [Decidable p] {F G : Han → Option α} (h : Cont F) (h' : Cont G) : Cont fun H => if p then F H else G H := by
  by_cases hp : p
  · exact h.congr fun H => if_pos hp
  · exact h'.congr fun H => if_neg hp

theorem cont_one {F : Han → Res} (h : Cont F) : Cont fun H => one (F H) :=
  (h.bind (G := fun a _ => one (some a)) fun a => Cont.const _).congr fun H => by cases F H <;> rfl

theorem cont_callA (x : AVal) (args : List AVal) (s : St) : Cont fun H => callA H x args s := by
  cases x with
  | fn f a b =>
    cases f with
    | func f => exact Cont.ite (cont_one (Cont.req _ _)) (Cont.const _)
    | _ => exact Cont.const _
  | yld l => exact cont_one (Cont.req _ _)
  | _ => exact Cont.const _

theorem cont_op (o : AOp) (fr : List AVal) (s : St) : Cont fun H => evalOp H o fr s := by
  cases o with
  | call f args => exact cont_one (Cont.req _ _)
  | callv x args => exact cont_callA _ _ _
  | _ => exact Cont.const _

theorem cont_ops : ∀ (l : List AInstr) (fr : List AVal) (s : St), Cont fun H => evalOps H l fr s
  | [], fr, s => Cont.const _
  | i :: l, fr, s => by
    refine Cont.ite (Cont.const _) (Cont.ite ?_ (cont_ops l _ _))
    exact ((cont_op i.op fr s).bind (G := fun a H => evalOps H l (putA fr i.dst a.1) a.2) fun a => cont_ops l _ _).congr fun H => by
      cases evalOp H i.op fr s <;> rfl

theorem cont_d : ∀ (l : List (AInstr × Nat × Nat)) (fr : List AVal) (s : St) (states : List St) (chks : List Chk), Cont fun H => evalD H l fr s states chks
  | [], fr, s, states, chks => Cont.const _
  | (i, lo, hi) :: l, fr, s, states, chks => by
    refine Cont.ite (Cont.const _) (Cont.ite ?_ (cont_d l _ _ _ _))
    exact ((cont_op i.op fr s).bind (G := fun a H => evalD H l (putA fr i.dst a.1) a.2 (if heavyA i.op then states ++ [a.2] else states)
      (match i.op with
          | .load1 x => if lo < hi then ⟨x.eval fr, none, a.1, lo, hi⟩ :: chks else chks
          | .loadn n x => if lo < hi then ⟨x.eval fr, some n, a.1, lo, hi⟩ :: chks else chks
          | _ => chks)) fun a => cont_d l _ _ _ _).congr fun H => by
      cases evalOp H i.op fr s <;> rfl

theorem cont_code : ∀ (c : ACode) (fr : List AVal) (s : St), Cont fun H => evalCode H c fr s := by
  intro c
  induction c with
  | skip | exit | ret | stuck => intro fr s; exact Cont.const _
  | ops l =>
    intro fr s
    exact ((cont_ops l fr s).bind (G := fun a _ => some (AExit.normal, a.1, a.2)) fun a => Cont.const _).congr fun H => by
      simp only [evalCode]; cases evalOps H l fr s <;> rfl
  | dops l =>
    intro fr s
    exact ((cont_d l fr s [s] []).bind (G := fun a _ => some (AExit.normal, a.1, a.2)) fun a => Cont.const _).congr fun H => by
      simp only [evalCode]; cases evalD H l fr s [s] [] <;> rfl
  | seq a b iha ihb =>
    intro fr s
    refine ((iha fr s).bind (G := fun r H => match r with | (.normal, fr, s) => evalCode H b fr s | r => some r) fun r => ?_).congr fun H => ?_
    · obtain ⟨e, fr, s⟩ := r
      cases e with
      | normal => exact ihb fr s
      | _ => exact Cont.const _
    · simp only [evalCode]
      cases evalCode H a fr s with
      | none => rfl
      | some r => obtain ⟨e, fr, s⟩ := r; cases e <;> rfl
  | cond x a b iha ihb =>
    intro fr s
    simp only [evalCode]
    split
    · exact iha fr s
    · exact ihb fr s
    · exact Cont.const _
  | block id c ih =>
    intro fr s
    refine ((ih fr s).bind (G := fun r _ => match r with | (.exit i, fr, s) => if i = id then some (.normal, fr, s) else some (.exit i, fr, s) | r => some r) fun r => Cont.const _).congr fun H => ?_
    simp only [evalCode]
    cases evalCode H c fr s with
    | none => rfl
    | some r => obtain ⟨e, fr, s⟩ := r; cases e <;> rfl
  | loop keep c ih =>
    intro fr s
    refine ((Cont.req (.loop c fr.length keep (keepA keep.head fr)) s).bind (G := fun r _ => some (r.1, fillK fr.length (keep.at_ r.1) r.2.1, r.2.2)) fun r => Cont.const _).congr fun H => ?_
    simp only [evalCode]
    cases H (.loop c fr.length keep (keepA keep.head fr)) s <;> rfl
  | rangeFunc f ps a b _ _ =>
    intro fr s
    simp only [evalCode]
    split
    · rename_i g first cap hf
      refine Cont.ite ?_ (Cont.const _)
      refine ((cont_one (Cont.req (.call g (first ++ [.yld s.n] ++ cap)) (s.push (.loop ⟨.ready, none, fr, ps, a, b⟩)))).bind (G := fun r _ => match r with
        | (_, s2) => match s2.get s.n with
        | some (.loop l) => if l.state = .busy then none else
          let s3 := s2.set s.n (.loop { l with state := .exhausted })
          match l.pending with
          | none => some (.normal, fr, s3)
          | some e => some (e, fr, s3)
        | _ => none) fun r => Cont.const _).congr fun H => ?_
      cases one (H (.call g (first ++ [.yld s.n] ++ cap)) (s.push (.loop ⟨.ready, none, fr, ps, a, b⟩))) <;> rfl
    · exact Cont.const _

/-- One level of the evaluator. -/
def stepReq (chk : St → St → Bool) (tbl : FuncId → Option AFun) (H : Han) : Req → St → Res
  | .loop c m keep vals, s => match evalCode H c (fillK m keep.head vals) s with
    | some (.normal, fr, s) => H (.loop c m keep (keepA keep.head fr)) s
    | some (e, fr, s) => some (e, keepA (keep.at_ e) fr, s)
    | none => none
  | .call f args, s => match tbl f with
    | none => none
    | some F => if isIce F.gc then
      (match mapO (fz 8 s) args with
      | none => none
      | some as => match evalCode H F.body (as ++ List.replicate (F.ntmps - args.length) undefA) St.empty with
        | some (.exit _, _, _) => none
        | some (_, fr, s') => match resultsA F.results fr s' with
          | some v => if v.fresh then v.weak.map fun v => (.ret, [v], s) else none
          | none => none
        | none => none)
      else match evalCode H F.body (takes F.gc args ++ List.replicate (F.ntmps - args.length) undefA) s with
      | some (.exit _, _, _) => none
      | some (_, fr, s') => match resultsA F.results fr s' with
        | some v => match F.gc with
          | none => some (.ret, [v], s')
          | some sz => if chk s s' then (frz s.n s' sz v).map fun v => (.ret, [v], s) else none
        | none => none
      | none => none
  | .round l args, s => match s.get l with
    | some (.loop L) => if args.length ≠ L.params.length then none else
      match evalCode H L.assign (setAll L.fr L.params args) s with
      | some (.normal, fr, s1) => match s1.get l with
        | some (.loop L1) => if L1.state ≠ .ready then none else
          match evalCode H L.body fr (s1.set l (.loop { L1 with state := .busy })) with
          | some (e, _, s3) => match s3.get l with
            | some (.loop L3) => some (.ret, [.bool (pendOf e).isNone], s3.set l (.loop { L3 with state := if (pendOf e).isNone then .ready else .done, pending := pendOf e }))
            | _ => none
          | none => none
        | _ => none
      | _ => none
    | _ => none

theorem evalReq_succ (chk : St → St → Bool) (tbl : FuncId → Option AFun) (n : Nat) (q : Req) (s : St) : evalReq chk tbl (n + 1) q s = stepReq chk tbl (evalReq chk tbl n) q s := by
  cases q <;> rfl

theorem cont_step (chk : St → St → Bool) (tbl : FuncId → Option AFun) (q : Req) (s : St) : Cont fun H => stepReq chk tbl H q s := by
  cases q with
  | loop c m keep vals =>
    refine ((cont_code c (fillK m keep.head vals) s).bind (G := fun r H => match r with | (.normal, fr, s) => H (.loop c m keep (keepA keep.head fr)) s | (e, fr, s) => some (e, keepA (keep.at_ e) fr, s)) fun r => ?_).congr fun H => ?_
    · obtain ⟨e, fr, s⟩ := r
      cases e with
      | normal => exact Cont.req _ _
      | _ => exact Cont.const _
    · simp only [stepReq]
      cases evalCode H c (fillK m keep.head vals) s with
      | none => rfl
      | some r => obtain ⟨e, fr, s⟩ := r; cases e <;> rfl
  | call f args =>
    simp only [stepReq]
    split
    · exact Cont.const _
    · rename_i F hF
      refine Cont.ite ?_ ?_
      · cases mapO (fz 8 s) args with
        | none => exact Cont.const _
        | some as =>
          simp only
          refine ((cont_code F.body (as ++ List.replicate (F.ntmps - args.length) undefA) St.empty).bind (G := fun r _ => match r with
            | (.exit _, _, _) => none
            | (_, fr, s') => match resultsA F.results fr s' with
              | some v => if v.fresh then v.weak.map fun v => (.ret, [v], s) else none
              | none => none) fun r => Cont.const _).congr fun H => ?_
          cases evalCode H F.body (as ++ List.replicate (F.ntmps - args.length) undefA) St.empty with
          | none => rfl
          | some r => obtain ⟨e, fr, s⟩ := r; cases e <;> rfl
      · refine ((cont_code F.body (takes F.gc args ++ List.replicate (F.ntmps - args.length) undefA) s).bind (G := fun r _ => match r with
          | (.exit _, _, _) => none
          | (_, fr, s') => match resultsA F.results fr s' with
            | some v => match F.gc with
              | none => some (.ret, [v], s')
              | some sz => if chk s s' then (frz s.n s' sz v).map fun v => (.ret, [v], s) else none
            | none => none) fun r => Cont.const _).congr fun H => ?_
        cases evalCode H F.body (takes F.gc args ++ List.replicate (F.ntmps - args.length) undefA) s with
        | none => rfl
        | some r => obtain ⟨e, fr, s⟩ := r; cases e <;> rfl
  | round l args =>
    simp only [stepReq]
    split
    · rename_i L hL
      refine Cont.ite (Cont.const _) ?_
      refine ((cont_code L.assign (setAll L.fr L.params args) s).bind (G := fun r H => match r with
        | (.normal, fr, s1) => match s1.get l with
          | some (.loop L1) => if L1.state ≠ .ready then none else
            match evalCode H L.body fr (s1.set l (.loop { L1 with state := .busy })) with
            | some (e, _, s3) => match s3.get l with
              | some (.loop L3) => some (.ret, [.bool (pendOf e).isNone], s3.set l (.loop { L3 with state := if (pendOf e).isNone then .ready else .done, pending := pendOf e }))
              | _ => none
            | none => none
          | _ => none
        | _ => none) fun r => ?_).congr fun H => ?_
      · obtain ⟨e, fr, s1⟩ := r
        cases e with
        | normal =>
          simp only
          split
          · rename_i L1 hL1
            refine Cont.ite (Cont.const _) ?_
            refine ((cont_code L.body fr (s1.set l (.loop { L1 with state := .busy }))).bind (G := fun r _ => match r with
              | (e, _, s3) => match s3.get l with
                | some (.loop L3) => some (.ret, [.bool (pendOf e).isNone], s3.set l (.loop { L3 with state := if (pendOf e).isNone then .ready else .done, pending := pendOf e }))
                | _ => none) fun r => Cont.const _).congr fun H => ?_
            cases evalCode H L.body fr (s1.set l (.loop { L1 with state := .busy })) <;> rfl
          · exact Cont.const _
        | _ => exact Cont.const _
      · cases evalCode H L.assign (setAll L.fr L.params args) s with
        | none => rfl
        | some r => obtain ⟨e, fr, s⟩ := r; cases e <;> rfl
    · exact Cont.const _

theorem evalReq_le (chk : St → St → Bool) (tbl : FuncId → Option AFun) : ∀ n, (evalReq chk tbl n).le (evalReq chk tbl (n + 1))
  | 0 => fun q s r h => by simp [evalReq] at h
  | n + 1 => fun q s r h => by
    rw [evalReq_succ] at h ⊢
    exact (cont_step chk tbl q s).mono _ _ (evalReq_le chk tbl n) r h

open Classical in
noncomputable def old (s s' : St) : Bool := decide (Old s s')

open Classical in
/-- The evaluator at some depth. -/
noncomputable def lim (tbl : FuncId → Option AFun) : Han := fun q s => if h : ∃ r n, evalReq old tbl n q s = some r then some (Classical.choose h) else none

theorem lim_chain (tbl : FuncId → Option AFun) : Chain (evalReq old tbl) (lim tbl) := by
  refine ⟨evalReq_le old tbl, fun q s r => ?_⟩
  have hup : ∀ (k m : Nat), (evalReq old tbl m).le (evalReq old tbl (m + k)) := fun k => by
    induction k with
    | zero => exact fun m _ _ _ h => h
    | succ k ih => exact fun m q s r e => evalReq_le old tbl (m + k) q s r (ih m q s r e)
  unfold lim
  constructor
  · intro h
    split at h
    · rename_i hx
      obtain ⟨n, hn⟩ := Classical.choose_spec hx
      cases h
      exact ⟨n, hn⟩
    · cases h
  · rintro ⟨m, hm⟩
    have hx : ∃ r n, evalReq old tbl n q s = some r := ⟨r, m, hm⟩
    rw [dif_pos hx]
    obtain ⟨n, hn⟩ := Classical.choose_spec hx
    have h1 := hup n m q s r hm
    have h2 := hup m n q s _ hn
    rw [Nat.add_comm, h1] at h2
    exact h2.symm

theorem lim_eq (tbl : FuncId → Option AFun) (q : Req) (s : St) : lim tbl q s = stepReq old tbl (lim tbl) q s := by
  have hc := lim_chain tbl
  apply Option.ext
  intro r
  constructor
  · intro h
    obtain ⟨m, hm⟩ := (hc.2 q s r).1 h
    cases m with
    | zero => simp [evalReq] at hm
    | succ m =>
      rw [evalReq_succ] at hm
      exact (cont_step old tbl q s).mono _ _ (hc.top m) r hm
  · intro h
    obtain ⟨m, hm⟩ := (cont_step old tbl q s).fin _ _ hc r h
    rw [← evalReq_succ] at hm
    exact (hc.2 q s r).2 ⟨m + 1, hm⟩

/-- WHAT THE EVALUATOR RETURNS, THE CALL RETURNS. -/
theorem sound_lim {P : Program} {tbl : Nat → Option AFun} (ht : TblOk P tbl) {f : Nat} {args : List AVal} {s s' : St} {e : AExit} {v : AVal} (h : lim tbl (.call f args) s = some (e, [v], s')) {ρ : Rho} {w : World} {args' : Array Value}
    (hs : Sim P ρ s w) (ha : VRels ρ args args'.toList) : Calls P (f % 4096) args' w fun e w' => ∃ v' ρ', e = .returned v' ∧ VRel ρ' v v' ∧ Sim P ρ' s' w' ∧ Fwd ρ w ρ' w' := by
  obtain ⟨n, hn⟩ := ((lim_chain tbl).2 _ _ _).1 h
  exact sound (fun s s' h => by simpa [old] using h) ht hn hs ha

end Go.Proofs.Ytlhfeiacigmliaa

/- How the small code runs: the evaluator's equations, as rules for simp. Printed by a program of mine. -/
namespace Go.Proofs.Ytlhfeiacigmliaa
open Go

/-- Nat.add under a name of its own. -/
def na (a b : Nat) : Nat := a + b
def getV : List AVal → Nat → AVal
  | [], _ => undefA
  | a :: _, 0 => a
  | _ :: l, n + 1 => getV l n
def setV : List AVal → Nat → AVal → List AVal
  | [], _, _ => []
  | _ :: l, 0, v => v :: l
  | a :: l, n + 1, v => a :: setV l n v
theorem getV_eq : ∀ (l : List AVal) (n : Nat), l.getD n undefA = getV l n
  | [], n => by simp [getV]
  | a :: l, 0 => rfl
  | a :: l, n + 1 => by rw [List.getD_cons_succ, getV, getV_eq l n]
theorem setV_eq : ∀ (l : List AVal) (n : Nat) (v : AVal), l.set n v = setV l n v
  | [], n, v => rfl
  | a :: l, 0, v => rfl
  | a :: l, n + 1, v => by rw [List.set_cons_succ, setV, setV_eq l n v]
def undefs (n : Nat) : List AVal := List.replicate n undefA
def anys (n : Nat) : List AVal := List.replicate n anyA
def padV : List AVal → Nat → List AVal
  | [], n => undefs n
  | a :: l, 0 => a :: l
  | a :: l, n + 1 => a :: padV l n
theorem padV_eq : ∀ (l : List AVal) (n : Nat), l ++ List.replicate (n - l.length) undefA = padV l n
  | [], n => by simp [padV, undefs]
  | a :: l, 0 => by simp [padV]
  | a :: l, n + 1 => by
    have := padV_eq l n
    rw [padV, ← this]; simp
def frLen : List AVal → Nat
  | [] => 0
  | _ :: l => frLen l + 1
theorem frLen_eq : ∀ l : List AVal, l.length = frLen l
  | [] => rfl
  | a :: l => by rw [List.length_cons, frLen, frLen_eq l]
section
variable (a b d e f g h i v : AVal) (l : List AVal) (n : Nat)
@[go_sem] theorem getV_0 : getV (a :: l) 0 = a := (rfl)
@[go_sem] theorem getV_s : getV (a :: l) (n + 1) = getV l n := (rfl)
@[go_sem] theorem setV_0 : setV (a :: l) 0 v = v :: l := (rfl)
@[go_sem] theorem setV_s : setV (a :: l) (n + 1) v = a :: setV l n v := (rfl)
@[go_sem] theorem undefs_0 : undefs 0 = [] := (rfl)
@[go_sem] theorem undefs_s : undefs (n + 1) = .tup [] :: undefs n := (rfl)
@[go_sem] theorem anys_0 : anys 0 = [] := (rfl)
@[go_sem] theorem anys_s : anys (n + 1) = .tup [.tup []] :: anys n := (rfl)
@[go_sem] theorem padV_nil : padV [] n = undefs n := (rfl)
@[go_sem] theorem padV_s : padV (a :: l) (n + 1) = a :: padV l n := (rfl)
@[go_sem] theorem frLen_0 : frLen [] = 0 := (rfl)
@[go_sem] theorem frLen_s : frLen (a :: l) = frLen l + 1 := (rfl)
end
@[go_sem] theorem opd_tmp (k : Nat) (fr : List AVal) : AOpd.eval (.tmp k) fr = getV fr k := getV_eq fr k
@[go_sem] theorem opd_const (v : AVal) (fr : List AVal) : AOpd.eval (.const v) fr = v := (rfl)
@[go_sem] theorem put_some (fr : List AVal) (d : Nat) (v : AVal) : putA fr (some d) v = setV fr d v := setV_eq fr d v
@[go_sem] theorem put_none (fr : List AVal) (v : AVal) : putA fr none v = fr := (rfl)
@[go_sem] theorem evals_nil (fr : List AVal) : evals [] fr = [] := (rfl)
@[go_sem] theorem evals_cons (x : AOpd) (l : List AOpd) (fr : List AVal) : evals (x :: l) fr = x.eval fr :: evals l fr := (rfl)
@[go_sem] theorem keep_nil (fr : List AVal) : keepA [] fr = [] := (rfl)
@[go_sem] theorem keep_cons (k : Nat) (l : List Nat) (fr : List AVal) : keepA (k :: l) fr = getV fr k :: keepA l fr := by
  simp only [keepA, List.map_cons, getV_eq]
@[go_sem] theorem fillK_eq (n : Nat) (keep : List Nat) (vals : List AVal) : fillK n keep vals = setAll (anys n) keep vals := (rfl)
@[go_sem] theorem setAll_nil (fr : List AVal) : setAll fr [] [] = fr := (rfl)
@[go_sem] theorem setAll_cons (fr : List AVal) (k : Nat) (ks : List Nat) (v : AVal) (vs : List AVal) : setAll fr (k :: ks) (v :: vs) = setAll (setV fr k v) ks vs := by
  rw [setAll, setV_eq]

def opsK : Option (List AVal × St) → Res
  | some (fr, s) => some (.normal, fr, s)
  | none => none
def seqK (H : Han) (b : ACode) : Res → Res
  | some (.normal, fr, s) => evalCode H b fr s
  | r => r
def condK (H : Han) (a b : ACode) (fr : List AVal) (s : St) : AVal → Res
  | .bool true => evalCode H a fr s
  | .bool false => evalCode H b fr s
  | _ => none
def blockK (id : Nat) : Res → Res
  | some (.exit i, fr, s) => if i = id then some (.normal, fr, s) else some (.exit i, fr, s)
  | r => r
def loopK (m : Nat) (keep : Keep) : Res → Res
  | some (e, vals, s) => some (e, fillK m (keep.at_ e) vals, s)
  | none => none
def pdK (fr : List AVal) (s : St) : Option AExit → Res
  | none => some (.normal, fr, s)
  | some e => some (e, fr, s)
def rfK3 (fr : List AVal) (n : Nat) (s : St) : Option AObj → Res
  | some (.loop l) => if l.state = .busy then none else pdK fr (s.set n (.loop { l with state := .exhausted })) l.pending
  | _ => none
def rfK2 (fr : List AVal) (n : Nat) : Option (AVal × St) → Res
  | none => none
  | some (_, s2) => rfK3 fr n s2 (s2.get n)
def rfK (H : Han) (ps : List Nat) (asg body : ACode) (fr : List AVal) (s : St) : AVal → Res
  | .fn (.func g) first cap => if g < 4096 then rfK2 fr s.n (one (H (.call g (first ++ [.yld s.n] ++ cap)) (s.push (.loop ⟨.ready, none, fr, ps, asg, body⟩)))) else none
  | _ => none
section
variable (H : Han) (a b c' : ACode) (fr fr' : List AVal) (s s' : St) (x : AOpd) (i k m : Nat) (keep : Keep) (e : AExit) (vs : List AVal)
@[go_sem] theorem ev_skip : evalCode H .skip fr s = some (.normal, fr, s) := (rfl)
@[go_sem] theorem ev_ops (l : List AInstr) : evalCode H (.ops l) fr s = opsK (evalOps H l fr s) := (rfl)
@[go_sem] theorem ev_dops (l : List (AInstr × Nat × Nat)) : evalCode H (.dops l) fr s = opsK (evalD H l fr s [s] []) := (rfl)
@[go_sem] theorem ev_seq : evalCode H (.seq a b) fr s = seqK H b (evalCode H a fr s) := by
  rw [evalCode]; unfold seqK; rfl
@[go_sem] theorem ev_cond : evalCode H (.cond x a b) fr s = condK H a b fr s (x.eval fr) := by
  rw [evalCode]; unfold condK; rfl
@[go_sem] theorem ev_block : evalCode H (.block k a) fr s = blockK k (evalCode H a fr s) := by
  rw [evalCode]; unfold blockK; rfl
@[go_sem] theorem ev_loop : evalCode H (.loop keep a) fr s = loopK (frLen fr) keep (H (.loop a (frLen fr) keep (keepA keep.head fr)) s) := by
  rw [evalCode, frLen_eq]; unfold loopK; rfl
@[go_sem] theorem ev_range (ps : List Nat) : evalCode H (.rangeFunc x ps a b) fr s = rfK H ps a b fr s (x.eval fr) := by
  rw [evalCode]; unfold rfK rfK2 rfK3 pdK; rfl
@[go_sem] theorem ev_exit : evalCode H (.exit k) fr s = some (.exit k, fr, s) := (rfl)
@[go_sem] theorem ev_ret : evalCode H .ret fr s = some (.ret, fr, s) := (rfl)
@[go_sem] theorem opsK_some : opsK (some (fr, s)) = some (.normal, fr, s) := (rfl)
@[go_sem] theorem seqK_normal : seqK H b (some (.normal, fr, s)) = evalCode H b fr s := (rfl)
@[go_sem] theorem seqK_exit : seqK H b (some (.exit k, fr, s)) = some (.exit k, fr, s) := (rfl)
@[go_sem] theorem seqK_ret : seqK H b (some (.ret, fr, s)) = some (.ret, fr, s) := (rfl)
@[go_sem] theorem condK_true : condK H a b fr s (.bool true) = evalCode H a fr s := (rfl)
@[go_sem] theorem condK_false : condK H a b fr s (.bool false) = evalCode H b fr s := (rfl)
@[go_sem] theorem blockK_normal : blockK k (some (.normal, fr, s)) = some (.normal, fr, s) := (rfl)
@[go_sem] theorem blockK_exit : blockK k (some (.exit i, fr, s)) = if i = k then some (.normal, fr, s) else some (.exit i, fr, s) := (rfl)
@[go_sem] theorem blockK_ret : blockK k (some (.ret, fr, s)) = some (.ret, fr, s) := (rfl)
@[go_sem] theorem loopK_exit (hd ex rt : List Nat) : loopK m ⟨hd, ex, rt⟩ (some (.exit k, vs, s)) = some (.exit k, fillK m ex vs, s) := (rfl)
@[go_sem] theorem loopK_ret (hd ex rt : List Nat) : loopK m ⟨hd, ex, rt⟩ (some (.ret, vs, s)) = some (.ret, fillK m rt vs, s) := (rfl)
@[go_sem] theorem pdK_none : pdK fr s none = some (.normal, fr, s) := (rfl)
@[go_sem] theorem pdK_some : pdK fr s (some e) = some (e, fr, s) := (rfl)
@[go_sem] theorem rfK3_ready (pd : Option AExit) (ps : List Nat) : rfK3 fr k s (some (.loop ⟨.ready, pd, fr', ps, a, b⟩)) = pdK fr (s.set k (.loop ⟨.exhausted, pd, fr', ps, a, b⟩)) pd := (rfl)
@[go_sem] theorem rfK3_done (pd : Option AExit) (ps : List Nat) : rfK3 fr k s (some (.loop ⟨.done, pd, fr', ps, a, b⟩)) = pdK fr (s.set k (.loop ⟨.exhausted, pd, fr', ps, a, b⟩)) pd := (rfl)
@[go_sem] theorem rfK2_some (v : AVal) : rfK2 fr k (some (v, s)) = rfK3 fr k s (s.get k) := (rfl)
@[go_sem] theorem rfK_fn (ps : List Nat) (g : Nat) (first cap : List AVal) (N : Nat) (O : List AObj) (p : Nat) (q : Nat → Nat) : rfK H ps a b fr ⟨N, O, p, q⟩ (.fn (.func g) first cap)
   = if g < 4096 then rfK2 fr N (one (H (.call g (first ++ [.yld N] ++ cap)) ⟨na N 1, .loop ⟨.ready, none, fr, ps, a, b⟩ :: O, p, q⟩)) else none := (rfl)
@[go_sem] theorem one_some (v : AVal) : one (some (e, [v], s)) = some (v, s) := (rfl)
end

def opK (H : Han) (l : List AInstr) (d : Option Nat) (fr : List AVal) : Option (AVal × St) → Option (List AVal × St)
  | some (v, s) => evalOps H l (putA fr d v) s
  | none => none
def grdK (H : Han) (l : List AInstr) (d : Option Nat) (op : AOp) (w : Bool) (fr : List AVal) (s : St) : AVal → Option (List AVal × St)
  | .bool b => if b == w then opK H l d fr (evalOp H op fr s) else evalOps H l (putA fr d undefA) s
  | v => if v.isAny then none else evalOps H l (putA fr d undefA) s
def stK (hv : Bool) (states : List St) (s : St) : List St := if hv then states ++ [s] else states
def chK (op : AOp) (lo hi : Nat) (fr : List AVal) (v : AVal) (chks : List Chk) : List Chk := match op with
  | .load1 a => if lo < hi then ⟨a.eval fr, none, v, lo, hi⟩ :: chks else chks
  | .loadn n a => if lo < hi then ⟨a.eval fr, some n, v, lo, hi⟩ :: chks else chks
  | _ => chks
def dopK (H : Han) (l : List (AInstr × Nat × Nat)) (d : Option Nat) (op : AOp) (lo hi : Nat) (fr : List AVal) (states : List St) (chks : List Chk) : Option (AVal × St) → Option (List AVal × St)
  | some (v, s) => evalD H l (putA fr d v) s (stK (heavyA op) states s) (chK op lo hi fr v chks)
  | none => none
def dgrdK (H : Han) (l : List (AInstr × Nat × Nat)) (d : Option Nat) (op : AOp) (lo hi : Nat) (w : Bool) (fr : List AVal) (s : St) (states : List St) (chks : List Chk) : AVal → Option (List AVal × St)
  | .bool b => if b == w then dopK H l d op lo hi fr states chks (evalOp H op fr s) else evalD H l (putA fr d undefA) s (stK (heavyA op) states s) chks
  | v => if v.isAny then none else evalD H l (putA fr d undefA) s (stK (heavyA op) states s) chks
def okAll (states : List St) : List Chk → Bool
  | [] => true
  | c :: cs => c.ok states && okAll states cs
def finK (b : Bool) (fr : List AVal) (s : St) : Option (List AVal × St) := if b then some (fr, s) else none
def sameK (v : AVal) : Option AVal → Bool
  | some w => w.beq v
  | none => false
def allK (a : AVal) (n : Option Nat) (v : AVal) : List St → Bool
  | [] => true
  | s :: l => sameK v (readA s a n) && allK a n v l
def cut (lo hi : Nat) (states : List St) : List St := (states.drop lo).take (hi + 1 - lo)
section
variable (H : Han) (d : Option Nat) (op : AOp) (w b : Bool) (l : List AInstr) (ld : List (AInstr × Nat × Nat)) (fr : List AVal) (s s' : St) (k lo hi : Nat) (v a : AVal) (states : List St) (chks : List Chk)
@[go_sem] theorem ops_nil : evalOps H [] fr s = some (fr, s) := (rfl)
@[go_sem] theorem ops_cons : evalOps H (⟨d, none, op⟩ :: l) fr s = opK H l d fr (evalOp H op fr s) := by
  unfold opK
  simp only [evalOps, badG, wantedA, Bool.false_eq_true, if_false, if_true]
  rfl
@[go_sem] theorem ops_guard : evalOps H (⟨d, some (k, w), op⟩ :: l) fr s = grdK H l d op w fr s (getV fr k) := by
  unfold grdK opK
  simp only [evalOps, badG, wantedA, getV_eq]
  cases getV fr k <;> try rfl
@[go_sem] theorem opK_some : opK H l d fr (some (v, s)) = evalOps H l (putA fr d v) s := (rfl)
@[go_sem] theorem grdK_tt : grdK H l d op true fr s (.bool true) = opK H l d fr (evalOp H op fr s) := (rfl)
@[go_sem] theorem grdK_ff : grdK H l d op false fr s (.bool false) = opK H l d fr (evalOp H op fr s) := (rfl)
@[go_sem] theorem grdK_tf : grdK H l d op true fr s (.bool false) = evalOps H l (putA fr d (.tup [])) s := (rfl)
@[go_sem] theorem grdK_ft : grdK H l d op false fr s (.bool true) = evalOps H l (putA fr d (.tup [])) s := (rfl)
@[go_sem] theorem grdK_undef : grdK H l d op w fr s (.tup []) = evalOps H l (putA fr d (.tup [])) s := (rfl)
@[go_sem] theorem d_nil : evalD H [] fr s states chks = finK (okAll states chks) fr s := by
  have : ∀ l : List Chk, (l.all fun c => c.ok states) = okAll states l := by
    intro l; induction l with
    | nil => rfl
    | cons c cs ih => simp [okAll, ih]
  simp only [evalD, this, finK]
@[go_sem] theorem d_cons : evalD H ((⟨d, none, op⟩, lo, hi) :: ld) fr s states chks = dopK H ld d op lo hi fr states chks (evalOp H op fr s) := by
  unfold dopK stK chK
  simp only [evalD, badG, wantedA, Bool.false_eq_true, if_false, if_true]
  try rfl
@[go_sem] theorem d_guard : evalD H ((⟨d, some (k, w), op⟩, lo, hi) :: ld) fr s states chks = dgrdK H ld d op lo hi w fr s states chks (getV fr k) := by
  unfold dgrdK dopK stK chK
  simp only [evalD, badG, wantedA, getV_eq]
  cases getV fr k <;> try rfl
@[go_sem] theorem dopK_some : dopK H ld d op lo hi fr states chks (some (v, s)) = evalD H ld (putA fr d v) s (stK (heavyA op) states s) (chK op lo hi fr v chks) := (rfl)
@[go_sem] theorem dgrdK_tt : dgrdK H ld d op lo hi true fr s states chks (.bool true) = dopK H ld d op lo hi fr states chks (evalOp H op fr s) := (rfl)
@[go_sem] theorem dgrdK_ff : dgrdK H ld d op lo hi false fr s states chks (.bool false) = dopK H ld d op lo hi fr states chks (evalOp H op fr s) := (rfl)
@[go_sem] theorem dgrdK_tf : dgrdK H ld d op lo hi true fr s states chks (.bool false) = evalD H ld (putA fr d (.tup [])) s (stK (heavyA op) states s) chks := (rfl)
@[go_sem] theorem dgrdK_ft : dgrdK H ld d op lo hi false fr s states chks (.bool true) = evalD H ld (putA fr d (.tup [])) s (stK (heavyA op) states s) chks := (rfl)
@[go_sem] theorem dgrdK_undef : dgrdK H ld d op lo hi w fr s states chks (.tup []) = evalD H ld (putA fr d (.tup [])) s (stK (heavyA op) states s) chks := (rfl)
@[go_sem] theorem stK_t : stK true states s = states ++ [s] := (rfl)
@[go_sem] theorem stK_f : stK false states s = states := (rfl)
@[go_sem] theorem okAll_nil : okAll states [] = true := (rfl)
@[go_sem] theorem okAll_vref (cs : List AVal) (n : Option Nat) : okAll states (⟨.vref cs, n, v, lo, hi⟩ :: chks) = okAll states chks := by simp [okAll, Chk.ok]
@[go_sem] theorem okAll_ptr (m o : Nat) (n : Option Nat) : okAll states (⟨.ptr m o, n, v, lo, hi⟩ :: chks) = (allK (.ptr m o) n v (cut lo hi states) && okAll states chks) := by
  have : ∀ l : List St, (l.all fun s => match readA s (.ptr m o) n with | some x => x.beq v | none => false) = allK (.ptr m o) n v l := by
    intro l; induction l with
    | nil => rfl
    | cons c cs ih => rw [List.all_cons, ih]; rfl
  simp only [okAll, Chk.ok, cut, ← this]
  rfl
@[go_sem] theorem allK_nil (n : Option Nat) : allK a n v [] = true := (rfl)
@[go_sem] theorem allK_cons (n : Option Nat) : allK a n v (s :: states) = (sameK v (readA s a n) && allK a n v states) := (rfl)
@[go_sem] theorem sameK_some (x : AVal) : sameK v (some x) = x.beq v := (rfl)
@[go_sem] theorem finK_t : finK true fr s = some (fr, s) := (rfl)
def aggS (s : St) : Option (List AVal) → Option (AVal × St)
  | some cs => some (.agg cs, s)
  | none => none
def aggO : Option (List AVal) → Option AVal
  | some cs => some (.agg cs)
  | none => none
def mapS (s : St) : Option AVal → Option (AVal × St)
  | some v => some (v, s)
  | none => none
@[go_sem] theorem aggO_some (cs : List AVal) : aggO (some cs) = some (.agg cs) := (rfl)
@[go_sem] theorem aggS_some (cs : List AVal) : aggS s (some cs) = some (.agg cs, s) := (rfl)
@[go_sem] theorem mapS_some : mapS s (some v) = some (v, s) := (rfl)
@[go_sem] theorem read_none : readA s a none = look1 s a := (rfl)
@[go_sem] theorem read_some : readA s a (some k) = aggO (lookN s a k) := by
  show (lookN s a k).map AVal.agg = _
  cases lookN s a k <;> rfl
end

section
@[go_sem] theorem heavy_move (x_ : AOpd) : heavyA (.move x_) = false := (rfl)
@[go_sem] theorem chK_move (x_ : AOpd) (lo hi : Nat) (fr : List AVal) (v : AVal) (chks : List Chk) : chK (.move x_) lo hi fr v chks = chks := (rfl)
@[go_sem] theorem heavy_pick (c_ : AOpd) (a_ : AOpd) (b_ : AOpd) : heavyA (.pick c_ a_ b_) = false := (rfl)
@[go_sem] theorem chK_pick (c_ : AOpd) (a_ : AOpd) (b_ : AOpd) (lo hi : Nat) (fr : List AVal) (v : AVal) (chks : List Chk) : chK (.pick c_ a_ b_) lo hi fr v chks = chks := (rfl)
@[go_sem] theorem heavy_build (zero_ : List AVal) (parts_ : List (Nat × Nat × AOpd)) : heavyA (.build zero_ parts_) = false := (rfl)
@[go_sem] theorem chK_build (zero_ : List AVal) (parts_ : List (Nat × Nat × AOpd)) (lo hi : Nat) (fr : List AVal) (v : AVal) (chks : List Chk) : chK (.build zero_ parts_) lo hi fr v chks = chks := (rfl)
@[go_sem] theorem heavy_buildSl (zero_ : List AVal) (len_ : Nat) (parts_ : List (Nat × Nat × AOpd)) : heavyA (.buildSl zero_ len_ parts_) = false := (rfl)
@[go_sem] theorem chK_buildSl (zero_ : List AVal) (len_ : Nat) (parts_ : List (Nat × Nat × AOpd)) (lo hi : Nat) (fr : List AVal) (v : AVal) (chks : List Chk) : chK (.buildSl zero_ len_ parts_) lo hi fr v chks = chks := (rfl)
@[go_sem] theorem heavy_load1 (a_ : AOpd) : heavyA (.load1 a_) = false := (rfl)
@[go_sem] theorem heavy_loadn (n_ : Nat) (a_ : AOpd) : heavyA (.loadn n_ a_) = false := (rfl)
@[go_sem] theorem heavy_store (n_ : Nat) (a_ : AOpd) (x_ : AOpd) : heavyA (.store n_ a_ x_) = true := (rfl)
@[go_sem] theorem chK_store (n_ : Nat) (a_ : AOpd) (x_ : AOpd) (lo hi : Nat) (fr : List AVal) (v : AVal) (chks : List Chk) : chK (.store n_ a_ x_) lo hi fr v chks = chks := (rfl)
@[go_sem] theorem heavy_nilCheck (x_ : AOpd) : heavyA (.nilCheck x_) = false := (rfl)
@[go_sem] theorem chK_nilCheck (x_ : AOpd) (lo hi : Nat) (fr : List AVal) (v : AVal) (chks : List Chk) : chK (.nilCheck x_) lo hi fr v chks = chks := (rfl)
@[go_sem] theorem heavy_bin (op_ : BinOp) (x_ : AOpd) (y_ : AOpd) : heavyA (.bin op_ x_ y_) = false := (rfl)
@[go_sem] theorem chK_bin (op_ : BinOp) (x_ : AOpd) (y_ : AOpd) (lo hi : Nat) (fr : List AVal) (v : AVal) (chks : List Chk) : chK (.bin op_ x_ y_) lo hi fr v chks = chks := (rfl)
@[go_sem] theorem heavy_eqagg (neg_ : Bool) (kinds_ : List Nat) (x_ : AOpd) (y_ : AOpd) : heavyA (.eqagg neg_ kinds_ x_ y_) = false := (rfl)
@[go_sem] theorem chK_eqagg (neg_ : Bool) (kinds_ : List Nat) (x_ : AOpd) (y_ : AOpd) (lo hi : Nat) (fr : List AVal) (v : AVal) (chks : List Chk) : chK (.eqagg neg_ kinds_ x_ y_) lo hi fr v chks = chks := (rfl)
@[go_sem] theorem heavy_un (op_ : UnOp) (x_ : AOpd) : heavyA (.un op_ x_) = false := (rfl)
@[go_sem] theorem chK_un (op_ : UnOp) (x_ : AOpd) (lo hi : Nat) (fr : List AVal) (v : AVal) (chks : List Chk) : chK (.un op_ x_) lo hi fr v chks = chks := (rfl)
@[go_sem] theorem heavy_mkFn (f_ : Fn) (first_ : List AOpd) (cap_ : List AOpd) : heavyA (.mkFn f_ first_ cap_) = false := (rfl)
@[go_sem] theorem chK_mkFn (f_ : Fn) (first_ : List AOpd) (cap_ : List AOpd) (lo hi : Nat) (fr : List AVal) (v : AVal) (chks : List Chk) : chK (.mkFn f_ first_ cap_) lo hi fr v chks = chks := (rfl)
@[go_sem] theorem heavy_slice (sz_ : Nat) (x_ : AOpd) (lo_ : Option AOpd) (hi_ : Option AOpd) (mx_ : Option AOpd) : heavyA (.slice sz_ x_ lo_ hi_ mx_) = false := (rfl)
@[go_sem] theorem chK_slice (sz_ : Nat) (x_ : AOpd) (lo_ : Option AOpd) (hi_ : Option AOpd) (mx_ : Option AOpd) (lo hi : Nat) (fr : List AVal) (v : AVal) (chks : List Chk) : chK (.slice sz_ x_ lo_ hi_ mx_) lo hi fr v chks = chks := (rfl)
@[go_sem] theorem heavy_fieldAddr (off_ : Nat) (x_ : AOpd) : heavyA (.fieldAddr off_ x_) = false := (rfl)
@[go_sem] theorem chK_fieldAddr (off_ : Nat) (x_ : AOpd) (lo hi : Nat) (fr : List AVal) (v : AVal) (chks : List Chk) : chK (.fieldAddr off_ x_) lo hi fr v chks = chks := (rfl)
@[go_sem] theorem heavy_indexArr (n_ : Nat) (sz_ : Nat) (x_ : AOpd) (i_ : AOpd) : heavyA (.indexArr n_ sz_ x_ i_) = false := (rfl)
@[go_sem] theorem chK_indexArr (n_ : Nat) (sz_ : Nat) (x_ : AOpd) (i_ : AOpd) (lo hi : Nat) (fr : List AVal) (v : AVal) (chks : List Chk) : chK (.indexArr n_ sz_ x_ i_) lo hi fr v chks = chks := (rfl)
@[go_sem] theorem heavy_indexSl (sz_ : Nat) (x_ : AOpd) (i_ : AOpd) : heavyA (.indexSl sz_ x_ i_) = false := (rfl)
@[go_sem] theorem chK_indexSl (sz_ : Nat) (x_ : AOpd) (i_ : AOpd) (lo hi : Nat) (fr : List AVal) (v : AVal) (chks : List Chk) : chK (.indexSl sz_ x_ i_) lo hi fr v chks = chks := (rfl)
@[go_sem] theorem heavy_lookup (kagg_ : Bool) (kinds_ : List Nat) (zero_ : AVal) (ok_ : Bool) (m_ : AOpd) (k_ : AOpd) : heavyA (.lookup kagg_ kinds_ zero_ ok_ m_ k_) = true := (rfl)
@[go_sem] theorem chK_lookup (kagg_ : Bool) (kinds_ : List Nat) (zero_ : AVal) (ok_ : Bool) (m_ : AOpd) (k_ : AOpd) (lo hi : Nat) (fr : List AVal) (v : AVal) (chks : List Chk) : chK (.lookup kagg_ kinds_ zero_ ok_ m_ k_) lo hi fr v chks = chks := (rfl)
@[go_sem] theorem heavy_mapUpdate (kagg_ : Bool) (kinds_ : List Nat) (m_ : AOpd) (k_ : AOpd) (v_ : AOpd) : heavyA (.mapUpdate kagg_ kinds_ m_ k_ v_) = true := (rfl)
@[go_sem] theorem chK_mapUpdate (kagg_ : Bool) (kinds_ : List Nat) (m_ : AOpd) (k_ : AOpd) (v_ : AOpd) (lo hi : Nat) (fr : List AVal) (v : AVal) (chks : List Chk) : chK (.mapUpdate kagg_ kinds_ m_ k_ v_) lo hi fr v chks = chks := (rfl)
@[go_sem] theorem heavy_extract (x_ : AOpd) (i_ : Nat) : heavyA (.extract x_ i_) = false := (rfl)
@[go_sem] theorem chK_extract (x_ : AOpd) (i_ : Nat) (lo hi : Nat) (fr : List AVal) (v : AVal) (chks : List Chk) : chK (.extract x_ i_) lo hi fr v chks = chks := (rfl)
@[go_sem] theorem heavy_call (f_ : FuncId) (args_ : List AOpd) : heavyA (.call f_ args_) = true := (rfl)
@[go_sem] theorem chK_call (f_ : FuncId) (args_ : List AOpd) (lo hi : Nat) (fr : List AVal) (v : AVal) (chks : List Chk) : chK (.call f_ args_) lo hi fr v chks = chks := (rfl)
@[go_sem] theorem heavy_callv (x_ : AOpd) (args_ : List AOpd) : heavyA (.callv x_ args_) = true := (rfl)
@[go_sem] theorem chK_callv (x_ : AOpd) (args_ : List AOpd) (lo hi : Nat) (fr : List AVal) (v : AVal) (chks : List Chk) : chK (.callv x_ args_) lo hi fr v chks = chks := (rfl)
@[go_sem] theorem heavy_len (x_ : AOpd) : heavyA (.len x_) = false := (rfl)
@[go_sem] theorem chK_len (x_ : AOpd) (lo hi : Nat) (fr : List AVal) (v : AVal) (chks : List Chk) : chK (.len x_) lo hi fr v chks = chks := (rfl)
@[go_sem] theorem heavy_append (sz_ : Nat) (bytes_ : Nat) (a_ : AOpd) (x_ : AOpd) : heavyA (.append sz_ bytes_ a_ x_) = true := (rfl)
@[go_sem] theorem chK_append (sz_ : Nat) (bytes_ : Nat) (a_ : AOpd) (x_ : AOpd) (lo hi : Nat) (fr : List AVal) (v : AVal) (chks : List Chk) : chK (.append sz_ bytes_ a_ x_) lo hi fr v chks = chks := (rfl)
@[go_sem] theorem heavy_maxmin (isMax_ : Bool) (args_ : List AOpd) : heavyA (.maxmin isMax_ args_) = false := (rfl)
@[go_sem] theorem chK_maxmin (isMax_ : Bool) (args_ : List AOpd) (lo hi : Nat) (fr : List AVal) (v : AVal) (chks : List Chk) : chK (.maxmin isMax_ args_) lo hi fr v chks = chks := (rfl)
@[go_sem] theorem chK_load1_0_0 (a : AOpd) (fr : List AVal) (v : AVal) (chks : List Chk) : chK (.load1 a) 0 0 fr v chks = chks := (rfl)
@[go_sem] theorem chK_loadn_0_0 (n : Nat) (a : AOpd) (fr : List AVal) (v : AVal) (chks : List Chk) : chK (.loadn n a) 0 0 fr v chks = chks := (rfl)
@[go_sem] theorem chK_load1_0_1 (a : AOpd) (fr : List AVal) (v : AVal) (chks : List Chk) : chK (.load1 a) 0 1 fr v chks = ⟨a.eval fr, none, v, 0, 1⟩ :: chks := (rfl)
@[go_sem] theorem chK_loadn_0_1 (n : Nat) (a : AOpd) (fr : List AVal) (v : AVal) (chks : List Chk) : chK (.loadn n a) 0 1 fr v chks = ⟨a.eval fr, (some n), v, 0, 1⟩ :: chks := (rfl)
@[go_sem] theorem cut_0_1 (s0 s1 : St) (l : List St) : cut 0 1 (s0 :: s1 :: l) = [s0, s1] := by simp [cut]
@[go_sem] theorem chK_load1_0_2 (a : AOpd) (fr : List AVal) (v : AVal) (chks : List Chk) : chK (.load1 a) 0 2 fr v chks = ⟨a.eval fr, none, v, 0, 2⟩ :: chks := (rfl)
@[go_sem] theorem cut_0_2 (s0 s1 s2 : St) (l : List St) : cut 0 2 (s0 :: s1 :: s2 :: l) = [s0, s1, s2] := by simp [cut]
@[go_sem] theorem chK_load1_1_1 (a : AOpd) (fr : List AVal) (v : AVal) (chks : List Chk) : chK (.load1 a) 1 1 fr v chks = chks := (rfl)
@[go_sem] theorem chK_loadn_1_1 (n : Nat) (a : AOpd) (fr : List AVal) (v : AVal) (chks : List Chk) : chK (.loadn n a) 1 1 fr v chks = chks := (rfl)
@[go_sem] theorem chK_loadn_1_2 (n : Nat) (a : AOpd) (fr : List AVal) (v : AVal) (chks : List Chk) : chK (.loadn n a) 1 2 fr v chks = ⟨a.eval fr, (some n), v, 1, 2⟩ :: chks := (rfl)
@[go_sem] theorem chK_loadn_2_3 (n : Nat) (a : AOpd) (fr : List AVal) (v : AVal) (chks : List Chk) : chK (.loadn n a) 2 3 fr v chks = ⟨a.eval fr, (some n), v, 2, 3⟩ :: chks := (rfl)
@[go_sem] theorem chK_loadn_4_5 (n : Nat) (a : AOpd) (fr : List AVal) (v : AVal) (chks : List Chk) : chK (.loadn n a) 4 5 fr v chks = ⟨a.eval fr, (some n), v, 4, 5⟩ :: chks := (rfl)
@[go_sem] theorem cut_4_5 (s0 s1 s2 s3 s4 s5 : St) (l : List St) : cut 4 5 (s0 :: s1 :: s2 :: s3 :: s4 :: s5 :: l) = [s4, s5] := by simp [cut]
end
@[go_sem] theorem na_0_0 : na 0 0 = 0 := (rfl)
@[go_sem] theorem na_0_1 : na 0 1 = 1 := (rfl)
@[go_sem] theorem na_0_2 : na 0 2 = 2 := (rfl)
@[go_sem] theorem na_0_3 : na 0 3 = 3 := (rfl)
@[go_sem] theorem mul_0_1 : Nat.mul 0 1 = 0 := (rfl)
@[go_sem] theorem na_1_0 : na 1 0 = 1 := (rfl)
@[go_sem] theorem na_1_1 : na 1 1 = 2 := (rfl)
@[go_sem] theorem mul_1_1 : Nat.mul 1 1 = 1 := (rfl)
@[go_sem] theorem na_2_0 : na 2 0 = 2 := (rfl)
@[go_sem] theorem na_2_1 : na 2 1 = 3 := (rfl)
@[go_sem] theorem mul_2_2 : Nat.mul 2 2 = 4 := (rfl)
@[go_sem] theorem mul_3_2 : Nat.mul 3 2 = 6 := (rfl)
@[go_sem] theorem iadd_0_1 : Int.add 0 1 = 1 := (rfl)
@[go_sem] theorem iadd_1_1 : Int.add 1 1 = 2 := (rfl)
@[go_sem] theorem repl_4 (a : AVal) : List.replicate 4 a = [a, a, a, a] := (rfl)
@[go_sem] theorem repl_6 (a : AVal) : List.replicate 6 a = [a, a, a, a, a, a] := (rfl)
@[go_sem] theorem repl_9 (a : AVal) : List.replicate 9 a = [a, a, a, a, a, a, a, a, a] := (rfl)
attribute [go_sem] decide_true decide_false Bool.not_true Bool.not_false Bool.true_and Bool.false_and Bool.and_true Bool.and_false Bool.true_or Bool.false_or Bool.or_false Bool.or_true List.nil_append List.cons_append
def pickK (a b : AVal) (s : St) : AVal → Option (AVal × St)
  | .bool t => some (if t then a else b, s)
  | _ => none
def boxK (s : St) (tu : Bool) (cs : List AVal) : Option (AVal × St) := if tu then none else some (.ptr s.n 0, s.push (.cells cs))
def boxIK (s : St) (tu : Bool) (cs : List AVal) : Option (AVal × St) := if tu then none else some (.vref cs, s)
def unitS : Option St → Option (AVal × St)
  | some s => some (undefA, s)
  | none => none
def storeK (n : Nat) (s : St) (a : AVal) (tu : Bool) (cs : List AVal) : Option (AVal × St) := if tu = false ∧ cs.length = n then unitS (storeN s a cs) else none
def nilK (s : St) : AVal → Option (AVal × St)
  | .nilp | .nilf | .nili | .tup _ => none
  | .fn (.method _) _ _ => none
  | v => some (v, s)
def boolS (neg : Bool) (s : St) : Option Bool → Option (AVal × St)
  | some b => some (.bool (b != neg), s)
  | none => none
def eqaggK (neg : Bool) (kinds : List Nat) (s : St) : AVal → AVal → Option (AVal × St)
  | .agg xs, .agg ys => boolS neg s (eqCells kinds xs ys)
  | _, _ => none
def and2 : Option Bool → Option Bool → Option Bool
  | some a, some b => some (a && b)
  | _, _ => none
def convK (k : IntKind) (s : St) : AVal → Option (AVal × St)
  | .int _ n => some (.int k (wr k n), s)
  | _ => none
def fieldK (off : Nat) (s : St) : AVal → Option (AVal × St)
  | .ptr b o => some (.ptr b (na o off), s)
  | .vref cs => some (.vref (cs.drop off), s)
  | _ => none
def fldK (agg : Bool) (off size : Nat) (s : St) : AVal → Option (AVal × St)
  | .agg cs => mapS s (partA agg cs off size)
  | _ => none
def idxArrK (sz : Nat) (s : St) : AVal → Option Nat → Option (AVal × St)
  | .ptr b o, some k => some (.ptr b (na o (Nat.mul k sz)), s)
  | .vref cs, some k => some (.vref (cs.drop (Nat.mul k sz)), s)
  | _, _ => none
def idxK (agg : Bool) (sz : Nat) (s : St) : AVal → Option Nat → Option (AVal × St)
  | .agg cs, some k => mapS s (partA agg cs (Nat.mul k sz) sz)
  | _, _ => none
def tupS (tu : Bool) (v : AVal) (s : St) : Option (AVal × St) := if tu then none else some (v, s)
def extL (s : St) : List AVal → Nat → Option (AVal × St)
  | [], _ => none
  | v :: _, 0 => tupS v.isTup v s
  | _ :: l, i + 1 => extL s l i
def extK (i : Nat) (s : St) : AVal → Option (AVal × St)
  | .tup vs => extL s vs i
  | _ => none
/-- The length, and an element, of a slice. -/
def lenV (x : AVal) (s : St) : Option (AVal × St) := match x with
  | .sl0 => some (.int .i64 0, s)
  | .vsl _ len _ => some (.int .i64 len, s)
  | .hsl _ _ len _ => some (.int .i64 len, s)
  | _ => none
def idxV (sz : Nat) (x i : AVal) (s : St) : Option (AVal × St) := match x with
  | .vsl cs len _ => (idxA i len).map fun k => (.vref (cs.drop (k * sz)), s)
  | .hsl b o len _ => (idxA i len).map fun k => (.ptr b (o + k * sz), s)
  | _ => none
def vrefS (sz : Nat) (cs : List AVal) (s : St) : Option Nat → Option (AVal × St)
  | some k => some (.vref (cs.drop (Nat.mul k sz)), s)
  | none => none
def ptrS (sz b o : Nat) (s : St) : Option Nat → Option (AVal × St)
  | some k => some (.ptr b (na o (Nat.mul k sz)), s)
  | none => none
def mmK (isMax : Bool) (s : St) : List AVal → Option (AVal × St)
  | [] => none
  | v :: vs => (vs.foldlM (maxmin2 isMax) v).map fun v => (v, s)
def partsE (fr : List AVal) : List (Nat × Nat × AOpd) → List (Nat × Nat × AVal)
  | [] => []
  | (a, b, x) :: l => (a, b, x.eval fr) :: partsE fr l
theorem partsE_eq (fr : List AVal) : ∀ l : List (Nat × Nat × AOpd), (l.map fun (a, b, x) => (a, b, x.eval fr)) = partsE fr l
  | [] => rfl
  | (a, b, x) :: l => by rw [List.map_cons, partsE, partsE_eq fr l]
def vslO (len : Nat) (s : St) : Option (List AVal) → Option (AVal × St)
  | some cs => some (.vsl cs len .full, s)
  | none => none
def fillK2 (ok : Bool) (cells : List AVal) (off : Nat) (new : List AVal) (rest : List (Nat × Nat × AVal)) : Option (List AVal) := if ok then fillA (splice cells off new) rest else none
/-- A bound of a slice expression. -/
def bndV (v : AVal) (most : Nat) : Option Nat := match v with
  | .int _ i => if 0 ≤ i ∧ i ≤ most then some i.toNat else none
  | _ => none
def hslK (b off cap : Nat) (s : St) : Option Nat → Option (AVal × St)
  | some h => some (.hsl b (if cap = 0 then off else off) h (some cap), s)
  | none => none
def arrHi (n : Nat) (s : St) (x v : AVal) : Option (AVal × St) := match x with
  | .ptr b off => hslK b off n s (bndV v n)
  | _ => none
def sliceHi (sz : Nat) (x v : AVal) : Option AVal := sliceA [v] sz x none (some (.tmp 0)) none
def mkS (zero : List AVal) (bytes : Nat) (l c : AVal) (s : St) : Option (AVal × St) := match l, c with
  | .int .i64 l, .int .i64 c =>
    if 0 ≤ l ∧ l ≤ c ∧ bytes * c ≤ 140737488355328 ∧ c ≤ 140737488355328 then some (.hsl s.n 0 l.toNat (some c.toNat), s.push (.cells (repl zero c.toNat))) else none
  | _, _ => none
def shlI (a b : Int) : Option AVal := if b < 0 then none else some (.int .i64 (wr .i64 (a * 2 ^ (min b.toNat 64))))
def shrI (a b : Int) : Option AVal := if b < 0 then none else some (.int .i64 (a.fdiv (2 ^ (min b.toNat 64))))
def remI (a b : Int) : Option AVal := if b = 0 then none else some (.int .i64 (a.tmod b))
def quoI (a b : Int) : Option AVal := if b = 0 then none else some (.int .i64 (wr .i64 (a.tdiv b)))
section
variable (H : Han) (fr : List AVal) (s s' : St) (x y z : AOpd) (v v' : AVal) (cs cs' : List AVal) (n m k i off sz len b : Nat) (N : Nat) (O : List AObj) (p : Nat) (q : Nat → Nat) (op : BinOp) (a a' : Int)
@[go_sem] theorem op_move : evalOp H (.move x) fr s = some (x.eval fr, s) := (rfl)
@[go_sem] theorem op_pick : evalOp H (.pick x y z) fr s = pickK (y.eval fr) (z.eval fr) s (x.eval fr) := (rfl)
@[go_sem] theorem pick_t : pickK v v' s (.bool true) = some (v, s) := (rfl)
@[go_sem] theorem pick_f : pickK v v' s (.bool false) = some (v', s) := (rfl)
@[go_sem] theorem op_alloc : evalOp H (.alloc cs) fr ⟨N, O, p, q⟩ = some (.ptr N 0, ⟨na N 1, .cells cs :: O, p, q⟩) := (rfl)
@[go_sem] theorem op_box : evalOp H (.box x) fr s = boxK s (x.eval fr).isTup (x.eval fr).cells := (rfl)
@[go_sem] theorem box_f : boxK ⟨N, O, p, q⟩ false cs = some (.ptr N 0, ⟨na N 1, .cells cs :: O, p, q⟩) := (rfl)
@[go_sem] theorem op_boxI : evalOp H (.boxI x) fr s = boxIK s (x.eval fr).isTup (x.eval fr).cells := (rfl)
@[go_sem] theorem boxI_f : boxIK s false cs = some (.vref cs, s) := (rfl)
@[go_sem] theorem op_build (parts : List (Nat × Nat × AOpd)) : evalOp H (.build cs parts) fr s = aggS s (fillA cs (partsE fr parts)) := by
  show (fillA cs (parts.map fun (a, b, x) => (a, b, x.eval fr))).map _ = _
  rw [partsE_eq]; cases fillA cs (partsE fr parts) <;> rfl
@[go_sem] theorem op_buildSl (parts : List (Nat × Nat × AOpd)) : evalOp H (.buildSl cs len parts) fr s = vslO len s (fillA cs (partsE fr parts)) := by
  show (fillA cs (parts.map fun (a, b, x) => (a, b, x.eval fr))).map _ = _
  rw [partsE_eq]; cases fillA cs (partsE fr parts) <;> rfl
@[go_sem] theorem vslO_some : vslO len s (some cs) = some (.vsl cs len .full, s) := (rfl)
@[go_sem] theorem partsE_nil : partsE fr [] = [] := (rfl)
@[go_sem] theorem partsE_cons (l : List (Nat × Nat × AOpd)) : partsE fr ((n, m, x) :: l) = (n, m, x.eval fr) :: partsE fr l := (rfl)
@[go_sem] theorem fillA_nil : fillA cs [] = some cs := (rfl)
@[go_sem] theorem fillA_cons (l : List (Nat × Nat × AVal)) : fillA cs ((off, sz, v) :: l) = fillK2 (!v.isTup && ((frLen v.cells == sz) && decide (off + sz ≤ frLen cs))) cs off v.cells l := by
  unfold fillK2
  rw [fillA, ← frLen_eq, ← frLen_eq]
  congr 1
  simp
@[go_sem] theorem fillK2_t (l : List (Nat × Nat × AVal)) : fillK2 true cs off cs' l = fillA (splice cs off cs') l := (rfl)
@[go_sem] theorem splice_nil : splice cs off ([] : List AVal) = cs := (rfl)
@[go_sem] theorem splice_cons : splice cs off (v :: cs') = splice (setV cs off v) (off + 1) cs' := by rw [splice, setV_eq]
@[go_sem] theorem op_load1 : evalOp H (.load1 x) fr s = mapS s (look1 s (x.eval fr)) := by
  show (look1 s (x.eval fr)).map _ = _
  cases look1 s (x.eval fr) <;> rfl
@[go_sem] theorem op_loadn : evalOp H (.loadn n x) fr s = aggS s (lookN s (x.eval fr) n) := by
  show (lookN s (x.eval fr) n).map _ = _
  cases lookN s (x.eval fr) n <;> rfl
@[go_sem] theorem op_store : evalOp H (.store n x y) fr s = storeK n s (x.eval fr) (y.eval fr).isTup (y.eval fr).cells := by
  unfold storeK
  show (if _ then _ else _) = _
  split
  · cases storeN s (x.eval fr) (y.eval fr).cells <;> rfl
  · rfl
@[go_sem] theorem storeK_1 (c1 : AVal) : storeK 1 s v false [c1] = unitS (storeN s v [c1]) := (rfl)
@[go_sem] theorem storeK_2 (c1 c2 : AVal) : storeK 2 s v false [c1, c2] = unitS (storeN s v [c1, c2]) := (rfl)
@[go_sem] theorem storeK_3 (c1 c2 c3 : AVal) : storeK 3 s v false [c1, c2, c3] = unitS (storeN s v [c1, c2, c3]) := (rfl)
@[go_sem] theorem storeK_4 (c1 c2 c3 c4 : AVal) : storeK 4 s v false [c1, c2, c3, c4] = unitS (storeN s v [c1, c2, c3, c4]) := (rfl)
@[go_sem] theorem storeK_6 (c1 c2 c3 c4 c5 c6 : AVal) : storeK 6 s v false [c1, c2, c3, c4, c5, c6] = unitS (storeN s v [c1, c2, c3, c4, c5, c6]) := (rfl)
@[go_sem] theorem unitS_some : unitS (some s) = some (.tup [], s) := (rfl)
@[go_sem] theorem op_nil : evalOp H (.nilCheck x) fr s = nilK s (x.eval fr) := (rfl)
@[go_sem] theorem nilK_ptr : nilK s (.ptr n m) = some (.ptr n m, s) := (rfl)
@[go_sem] theorem nilK_vref : nilK s (.vref cs) = some (.vref cs, s) := (rfl)
@[go_sem] theorem op_bin : evalOp H (.bin op x y) fr s = mapS s (binA op (x.eval fr) (y.eval fr)) := by
  show (binA op (x.eval fr) (y.eval fr)).map _ = _
  cases binA op (x.eval fr) (y.eval fr) <;> rfl
@[go_sem] theorem binA_i64 : binA op (.int .i64 a) (.int .i64 a') = binInt op .i64 a a' := by
  simp [binA]
@[go_sem] theorem binA_shl : binA .shl (.int .i64 a) (.int .u64 a') = shlI a a' := (rfl)
@[go_sem] theorem binA_shr : binA .shr (.int .i64 a) (.int .u64 a') = shrI a a' := (rfl)
@[go_sem] theorem bin_add : binInt .add .i64 a a' = some (.int .i64 (wr .i64 (Int.add a a'))) := (rfl)
@[go_sem] theorem bin_sub : binInt .sub .i64 a a' = some (.int .i64 (wr .i64 (Int.sub a a'))) := (rfl)
@[go_sem] theorem bin_mul : binInt .mul .i64 a a' = some (.int .i64 (wr .i64 (Int.mul a a'))) := (rfl)
@[go_sem] theorem bin_eql : binInt .eql .i64 a a' = some (.bool (decide (a = a'))) := (rfl)
@[go_sem] theorem bin_neq : binInt .neq .i64 a a' = some (.bool (!decide (a = a'))) := (rfl)
@[go_sem] theorem bin_lss : binInt .lss .i64 a a' = some (.bool (decide (a < a'))) := (rfl)
@[go_sem] theorem bin_leq : binInt .leq .i64 a a' = some (.bool (decide (a ≤ a'))) := (rfl)
@[go_sem] theorem bin_gtr : binInt .gtr .i64 a a' = some (.bool (decide (a' < a))) := (rfl)
@[go_sem] theorem bin_geq : binInt .geq .i64 a a' = some (.bool (decide (a' ≤ a))) := (rfl)
@[go_sem] theorem bin_shl : binInt .shl .i64 a a' = shlI a a' := (rfl)
@[go_sem] theorem bin_shr : binInt .shr .i64 a a' = shrI a a' := (rfl)
@[go_sem] theorem bin_rem : binInt .rem .i64 a a' = remI a a' := (rfl)
@[go_sem] theorem bin_quo : binInt .quo .i64 a a' = quoI a a' := (rfl)
@[go_sem] theorem bin_and : binInt .and .i64 a a' = bitsA .and .i64 a a' := (rfl)
@[go_sem] theorem bin_or : binInt .or .i64 a a' = bitsA .or .i64 a a' := (rfl)
@[go_sem] theorem bin_andNot : binInt .andNot .i64 a a' = bitsA .andNot .i64 a a' := (rfl)
@[go_sem] theorem op_eqagg (neg : Bool) (kinds : List Nat) : evalOp H (.eqagg neg kinds x y) fr s = eqaggK neg kinds s (x.eval fr) (y.eval fr) := by
  unfold eqaggK boolS
  show (match x.eval fr, y.eval fr with | .agg xs, .agg ys => _ | _, _ => _) = _
  split
  · rename_i xs ys _ _
    cases eqCells kinds xs ys <;> rfl
  · rfl
@[go_sem] theorem eqagg_agg (neg : Bool) (kinds : List Nat) : eqaggK neg kinds s (.agg cs) (.agg cs') = boolS neg s (eqCells kinds cs cs') := (rfl)
@[go_sem] theorem boolS_t (c : Bool) : boolS true s (some c) = some (.bool (!c), s) := by cases c <;> rfl
@[go_sem] theorem boolS_f (c : Bool) : boolS false s (some c) = some (.bool c, s) := by cases c <;> rfl
@[go_sem] theorem eqCells_nil : eqCells [] [] [] = some true := (rfl)
@[go_sem] theorem eqCells_cons (kinds : List Nat) : eqCells (k :: kinds) (v :: cs) (v' :: cs') = and2 (eqCell k v v') (eqCells kinds cs cs') := by
  rw [eqCells]; unfold and2; rfl
@[go_sem] theorem and2_some (c d : Bool) : and2 (some c) (some d) = some (c && d) := (rfl)
@[go_sem] theorem eqCell_0 : eqCell 0 (.int .i64 a) (.int .i64 a') = some (decide (a = a')) := (rfl)
@[go_sem] theorem op_eqnil (neg : Bool) : evalOp H (.eqnil k neg x y) fr s = boolS neg s (eqNilA k (x.eval fr) (y.eval fr)) := by
  show (eqNilA k (x.eval fr) (y.eval fr)).map _ = _
  cases eqNilA k (x.eval fr) (y.eval fr) <;> rfl
@[go_sem] theorem eqNil_1_00 : eqNilA 1 .sl0 .sl0 = some true := (rfl)
@[go_sem] theorem eqNil_1_h0 (c : Option Nat) : eqNilA 1 (.hsl n m k c) .sl0 = some false := (rfl)
@[go_sem] theorem op_un (o : UnOp) : evalOp H (.un o x) fr s = mapS s (unA o (x.eval fr)) := by
  show (unA o (x.eval fr)).map _ = _
  cases unA o (x.eval fr) <;> rfl
@[go_sem] theorem un_not (c : Bool) : unA .not (.bool c) = some (.bool !c) := (rfl)
@[go_sem] theorem un_neg (kd : IntKind) : unA .neg (.int kd a) = some (.int kd (wr kd (Int.sub 0 a))) := (rfl)
@[go_sem] theorem op_conv (kd : IntKind) : evalOp H (.conv kd x) fr s = convK kd s (x.eval fr) := (rfl)
@[go_sem] theorem conv_int (kd kd' : IntKind) : convK kd s (.int kd' a) = some (.int kd (wr kd a), s) := (rfl)
@[go_sem] theorem op_mkFn (first cap : List AOpd) : evalOp H (.mkFn (.func n) first cap) fr s = some (.fn (.func n) (evals first fr) (evals cap fr), s) := (rfl)
@[go_sem] theorem op_mkMap (c : Bool) : evalOp H (.mkMap c) fr ⟨N, O, p, q⟩ = some (.map N, ⟨na N 1, .map c [] :: O, p, q⟩) := (rfl)
@[go_sem] theorem op_mkS (zero : List AVal) (bytes : Nat) : evalOp H (.mkSlice zero bytes x y) fr s = mkS zero bytes (x.eval fr) (y.eval fr) s := (rfl)
@[go_sem] theorem op_sliceHi : evalOp H (.slice sz x none (some y) none) fr s = mapS s (sliceHi sz (x.eval fr) (y.eval fr)) := by
  show (sliceHi sz (x.eval fr) (y.eval fr)).map _ = _
  cases sliceHi sz (x.eval fr) (y.eval fr) <;> rfl
@[go_sem] theorem op_arrHi : evalOp H (.sliceArr n sz x none (some y) none) fr s = arrHi n s (x.eval fr) (y.eval fr) := by
  show (sliceArrA fr n sz (x.eval fr) none (some y) none).map _ = _
  unfold sliceArrA arrHi hslK bndV
  cases x.eval fr <;> try rfl
  simp only [boundA]
  cases y.eval fr <;> try rfl
  simp only [Option.bind_eq_bind, Option.bind_some]
  split <;> simp [*]
@[go_sem] theorem arrHi_ptr : arrHi n s (.ptr b off) v = hslK b off n s (bndV v n) := (rfl)
@[go_sem] theorem hslK_some : hslK b off n s (some m) = some (.hsl b off m (some n), s) := by simp [hslK]
@[go_sem] theorem op_fieldAddr : evalOp H (.fieldAddr off x) fr s = fieldK off s (x.eval fr) := (rfl)
@[go_sem] theorem fieldK_ptr : fieldK off s (.ptr n m) = some (.ptr n (na m off), s) := (rfl)
@[go_sem] theorem fieldK_vref : fieldK off s (.vref cs) = some (.vref (cs.drop off), s) := (rfl)
@[go_sem] theorem op_field (c : Bool) : evalOp H (.field c off sz x) fr s = fldK c off sz s (x.eval fr) := by
  unfold fldK
  show (match x.eval fr with | .agg cs => _ | _ => _) = _
  split
  · rename_i cs _
    cases partA c cs off sz <;> rfl
  · rfl
@[go_sem] theorem fldK_agg (c : Bool) : fldK c off sz s (.agg cs) = mapS s (partA c cs off sz) := (rfl)
@[go_sem] theorem part_0 : partA false (v :: cs) 0 sz = some v := (rfl)
@[go_sem] theorem part_s : partA false (v :: cs) (n + 1) sz = partA false cs n sz := by simp [partA]
@[go_sem] theorem op_idxArr : evalOp H (.indexArr n sz x y) fr s = idxArrK sz s (x.eval fr) (idxA (y.eval fr) n) := by
  unfold idxArrK; rfl
@[go_sem] theorem idxArr_ptr : idxArrK sz s (.ptr n m) (some k) = some (.ptr n (na m (Nat.mul k sz)), s) := (rfl)
@[go_sem] theorem idxArr_vref : idxArrK sz s (.vref cs) (some k) = some (.vref (cs.drop (Nat.mul k sz)), s) := (rfl)
@[go_sem] theorem op_index (c : Bool) : evalOp H (.index n c sz x y) fr s = idxK c sz s (x.eval fr) (idxA (y.eval fr) n) := by
  unfold idxK
  show (match x.eval fr, idxA (y.eval fr) n with | .agg cs, some k => _ | _, _ => _) = _
  split
  · rename_i cs k _ _
    show (partA c cs (k * sz) sz).map _ = mapS s (partA c cs (k * sz) sz)
    cases partA c cs (k * sz) sz <;> rfl
  · rfl
@[go_sem] theorem idxK_agg (c : Bool) : idxK c sz s (.agg cs) (some k) = mapS s (partA c cs (Nat.mul k sz) sz) := (rfl)
@[go_sem] theorem op_extract : evalOp H (.extract x i) fr s = extK i s (x.eval fr) := by
  unfold extK
  show (match x.eval fr with | .tup vs => _ | _ => _) = _
  split
  · rename_i vs hvs
    clear hvs
    induction vs generalizing i with
    | nil => simp [extL]
    | cons v vs ih =>
      cases i with
      | zero => simp [extL, tupS]
      | succ i => simpa [extL] using ih i
  · rfl
@[go_sem] theorem extK_tup : extK i s (.tup cs) = extL s cs i := (rfl)
@[go_sem] theorem extL_0 : extL s (v :: cs) 0 = tupS v.isTup v s := (rfl)
@[go_sem] theorem extL_s : extL s (v :: cs) (i + 1) = extL s cs i := (rfl)
@[go_sem] theorem tupS_f : tupS false v s = some (v, s) := (rfl)
@[go_sem] theorem op_call (args : List AOpd) : evalOp H (.call n args) fr s = one (H (.call n (evals args fr)) s) := (rfl)
@[go_sem] theorem op_callv (args : List AOpd) : evalOp H (.callv x args) fr s = callA H (x.eval fr) (evals args fr) s := (rfl)
@[go_sem] theorem callA_fn (args l l' : List AVal) : callA H (.fn (.func n) l l') args s = if n < 4096 then one (H (.call n (l ++ args ++ l')) s) else none := (rfl)
@[go_sem] theorem callA_yld (args : List AVal) : callA H (.yld n) args s = one (H (.round n args) s) := (rfl)
@[go_sem] theorem op_len : evalOp H (.len x) fr s = lenV (x.eval fr) s := (rfl)
@[go_sem] theorem op_idx : evalOp H (.indexSl sz x y) fr s = idxV sz (x.eval fr) (y.eval fr) s := (rfl)
@[go_sem] theorem len_vsl (pm : Perm) : lenV (.vsl cs n pm) s = some (.int .i64 (Int.ofNat n), s) := (rfl)
@[go_sem] theorem idx_vsl (pm : Perm) : idxV sz (.vsl cs n pm) v s = vrefS sz cs s (idxA v n) := by
  unfold idxV vrefS; simp only; cases idxA v n <;> rfl
@[go_sem] theorem idx_hsl (o : Option Nat) : idxV sz (.hsl n m k o) v s = ptrS sz n m s (idxA v k) := by
  unfold idxV ptrS; simp only; cases idxA v k <;> rfl
@[go_sem] theorem vrefS_some : vrefS sz cs s (some k) = some (.vref (cs.drop (Nat.mul k sz)), s) := (rfl)
@[go_sem] theorem ptrS_some : ptrS sz n m s (some k) = some (.ptr n (na m (Nat.mul k sz)), s) := (rfl)
@[go_sem] theorem op_append (bytes : Nat) : evalOp H (.append sz bytes x y) fr s = appendA sz bytes (x.eval fr) (y.eval fr) s := (rfl)
@[go_sem] theorem op_maxmin (c : Bool) (args : List AOpd) : evalOp H (.maxmin c args) fr s = mmK c s (evals args fr) := by
  show (match evals args fr with | [] => _ | v :: vs => _) = _
  unfold mmK; rfl
@[go_sem] theorem mmK_2 (c : Bool) : mmK c s [v, v'] = mapS s (maxmin2 c v v') := by
  show (([v'] : List AVal).foldlM (maxmin2 c) v).map _ = _
  simp only [List.foldlM_cons, List.foldlM_nil]
  cases maxmin2 c v v' <;> rfl
end

def resA (fr : List AVal) (s : St) : List ARes → Option (List AVal)
  | [] => some []
  | r :: l => match ARes.get fr s r, resA fr s l with
    | some v, some vs => some (v :: vs)
    | _, _ => none
def cons2 : Option AVal → Option (List AVal) → Option (List AVal)
  | some v, some vs => some (v :: vs)
  | _, _ => none
theorem resA_eq (fr : List AVal) (s : St) : ∀ l : List ARes, l.mapM (ARes.get fr s) = resA fr s l
  | [] => rfl
  | r :: l => by
    rw [List.mapM_cons, resA, resA_eq fr s l]
    cases ARes.get fr s r with
    | none => rfl
    | some v => cases resA fr s l <;> rfl
def tupK : Option (List AVal) → Option AVal
  | some [v] => some v
  | some vs => some (.tup vs)
  | none => none
def gcK (s : St) (b : Bool) (v : Option AVal) : Res := if b then v.map fun v => (.ret, [v], s) else none
noncomputable def retK (gc : Option Nat) (s s' : St) : Option AVal → Res
  | some v => match gc with
    | none => some (.ret, [v], s')
    | some sz => gcK s (old s s') (frz s.n s' sz v)
  | none => none
noncomputable def retOf (res : List ARes) (gc : Option Nat) (s : St) : Res → Res
  | some (.exit _, _, _) => none
  | some (_, fr, s') => retK gc s s' (tupK (resA fr s' res))
  | none => none
def frameV (gc : Option Nat) (args : List AVal) (n : Nat) : List AVal := takes gc args ++ List.replicate (n - args.length) undefA
@[go_sem] theorem frameV_none (args : List AVal) (n : Nat) : frameV none args n = padV args n := padV_eq args n
@[go_sem] theorem frameV_some (sz : Nat) (args : List AVal) (n : Nat) : frameV (some sz) args n = padV (norms args) n := by
  rw [← padV_eq, norms_length]; rfl
theorem lim_call {T : Nat → Option AFun} {k : Nat} {F : AFun} (h : T k = some F) (hi : isIce F.gc = false := by rfl) (args : List AVal) (s : St) :
    lim T (.call k args) s = retOf F.results F.gc s (evalCode (lim T) F.body (frameV F.gc args F.ntmps) s) := by
  rw [lim_eq]; simp only [stepReq, h, hi, Bool.false_eq_true, if_false]
  unfold frameV
  cases evalCode (lim T) F.body (takes F.gc args ++ List.replicate (F.ntmps - args.length) undefA) s with
  | none => rfl
  | some r =>
    obtain ⟨e, fr, s'⟩ := r
    have h : resultsA F.results fr s' = tupK (resA fr s' F.results) := by
      unfold resultsA tupK; rw [resA_eq]; rfl
    cases e with
    | exit _ => rfl
    | _ =>
      simp only [retOf, h]
      cases tupK (resA fr s' F.results) with
      | none => rfl
      | some v => cases F.gc <;> rfl
noncomputable def loopOf (T : Nat → Option AFun) (c : ACode) (m : Nat) (keep : Keep) : Res → Res
  | some (.normal, fr, s) => lim T (.loop c m keep (keepA keep.head fr)) s
  | some (e, fr, s) => some (e, keepA (keep.at_ e) fr, s)
  | none => none
theorem lim_loop (T : Nat → Option AFun) (c : ACode) (m : Nat) (keep : Keep) (vals : List AVal) (s : St) :
    lim T (.loop c m keep vals) s = loopOf T c m keep (evalCode (lim T) c (fillK m keep.head vals) s) := by
  rw [lim_eq]; simp only [stepReq]
  cases evalCode (lim T) c (fillK m keep.head vals) s with
  | none => rfl
  | some r => obtain ⟨e, fr, s'⟩ := r; cases e <;> rfl
section
variable (T : Nat → Option AFun) (fr : List AVal) (s s' : St) (r : ARes) (l : List ARes) (v v' : AVal) (vs : List AVal) (gc : Option Nat) (k m : Nat) (c : ACode) (hd ex rt : List Nat)
@[go_sem] theorem resA_nil : resA fr s [] = some [] := (rfl)
@[go_sem] theorem resA_cons : resA fr s (r :: l) = cons2 (ARes.get fr s r) (resA fr s l) := by rw [resA]; unfold cons2; rfl
@[go_sem] theorem cons2_some : cons2 (some v) (some vs) = some (v :: vs) := (rfl)
@[go_sem] theorem tupK_0 : tupK (some []) = some (.tup []) := (rfl)
@[go_sem] theorem tupK_1 : tupK (some [v]) = some v := (rfl)
@[go_sem] theorem tupK_2 : tupK (some (v :: v' :: vs)) = some (.tup (v :: v' :: vs)) := (rfl)
@[go_sem] theorem res_tmp : ARes.get fr s (.tmp k) = some (getV fr k) := by simp only [ARes.get, getV_eq]
@[go_sem] theorem res_cell (o : Option Nat) : ARes.get fr s (.cell k o) = readA s (getV fr k) o := by simp only [ARes.get, getV_eq]
@[go_sem] theorem retOf_ret : retOf l gc s (some (.ret, fr, s')) = retK gc s s' (tupK (resA fr s' l)) := (rfl)
@[go_sem] theorem retOf_normal : retOf l gc s (some (.normal, fr, s')) = retK gc s s' (tupK (resA fr s' l)) := (rfl)
@[go_sem] theorem retK_none : retK none s s' (some v) = some (.ret, [v], s') := (rfl)
@[go_sem] theorem retK_some (N : Nat) (O : List AObj) (p : Nat) (q : Nat → Nat) : retK (some k) ⟨N, O, p, q⟩ s' (some v) = gcK ⟨N, O, p, q⟩ (old ⟨N, O, p, q⟩ s') (frz N s' k v) := (rfl)
@[go_sem] theorem gcK_t : gcK s true (some v) = some (.ret, [v], s) := (rfl)
@[go_sem] theorem loopOf_normal : loopOf T c m ⟨hd, ex, rt⟩ (some (.normal, fr, s)) = lim T (.loop c m ⟨hd, ex, rt⟩ (keepA hd fr)) s := (rfl)
@[go_sem] theorem loopOf_exit : loopOf T c m ⟨hd, ex, rt⟩ (some (.exit k, fr, s)) = some (.exit k, keepA ex fr, s) := (rfl)
@[go_sem] theorem loopOf_ret : loopOf T c m ⟨hd, ex, rt⟩ (some (.ret, fr, s)) = some (.ret, keepA rt fr, s) := (rfl)
end

def vslW (len : Nat) : Option (List AVal) → Option AVal
  | some cs => some (.vsl cs len .no)
  | none => none
def tupW : Option (List AVal) → Option AVal
  | some cs => some (.tup cs)
  | none => none
section
variable (N sz n m k : Nat) (s : St) (b : Bool) (kd : IntKind) (z : Int) (x : ByteArray) (l vs : List AVal) (v : AVal) (pm : Perm) (o : Option Nat)
@[go_sem] theorem vslW_some : vslW n (some l) = some (.vsl l n .no) := (rfl)
@[go_sem] theorem tupW_some : tupW (some l) = some (.tup l) := (rfl)
@[go_sem] theorem weak_int : AVal.weak (.int kd z) = some (.int kd z) := (rfl)
@[go_sem] theorem weak_vsl : AVal.weak (.vsl l n pm) = vslW n (weaks l) := by show (weaks l).map _ = _; cases weaks l <;> rfl
@[go_sem] theorem weak_agg : AVal.weak (.agg l) = aggO (weaks l) := by show (weaks l).map _ = _; cases weaks l <;> rfl
@[go_sem] theorem weaks_nil : weaks [] = some [] := (rfl)
@[go_sem] theorem weaks_cons : weaks (v :: l) = cons2 v.weak (weaks l) := by rw [weaks]; unfold cons2; rfl
@[go_sem] theorem frzs_nil : frzs N s sz [] = some [] := (rfl)
@[go_sem] theorem frzs_cons : frzs N s sz (v :: l) = cons2 (frz1 N s sz v) (frzs N s sz l) := by rw [frzs]; unfold cons2; rfl
@[go_sem] theorem frz_tup : frz N s sz (.tup l) = tupW (frzs N s sz l) := by show (frzs N s sz l).map _ = _; cases frzs N s sz l <;> rfl
@[go_sem] theorem frz_bool : frz N s sz (.bool b) = some (.bool b) := (rfl)
@[go_sem] theorem frz_int : frz N s sz (.int kd z) = some (.int kd z) := (rfl)
@[go_sem] theorem frz_vsl : frz N s sz (.vsl l n pm) = vslW n (weaks l) := weak_vsl (pm := pm) ..
@[go_sem] theorem frz_agg : frz N s sz (.agg l) = aggO (weaks l) := weak_agg ..
@[go_sem] theorem frz1_int : frz1 N s sz (.int kd z) = some (.int kd z) := (rfl)
@[go_sem] theorem frz1_sl0 : frz1 N s sz .sl0 = some (.vsl [] 0 .no) := (rfl)
@[go_sem] theorem frz1_agg : frz1 N s sz (.agg l) = aggO (weaks l) := weak_agg ..
end

def roundEnd (l : Nat) (s3 : St) (e : AExit) : Option AObj → Res
  | some (.loop L3) => some (.ret, [.bool (pendOf e).isNone], s3.set l (.loop { L3 with state := if (pendOf e).isNone then .ready else .done, pending := pendOf e }))
  | _ => none
def roundOf2 (l : Nat) : Res → Res
  | some (e, _, s3) => roundEnd l s3 e (s3.get l)
  | none => none
noncomputable def roundMid (T : Nat → Option AFun) (l : Nat) (body : ACode) (fr : List AVal) (s1 : St) : Option AObj → Res
  | some (.loop L1) => if L1.state ≠ .ready then none else roundOf2 l (evalCode (lim T) body fr (s1.set l (.loop { L1 with state := .busy })))
  | _ => none
noncomputable def roundOf (T : Nat → Option AFun) (l : Nat) (body : ACode) : Res → Res
  | some (.normal, fr, s1) => roundMid T l body fr s1 (s1.get l)
  | _ => none
theorem lim_round {T : Nat → Option AFun} {l : Nat} {args : List AVal} {s : St} {L : ALoop} (h : s.get l = some (.loop L)) (ha : args.length = L.params.length) :
    lim T (.round l args) s = roundOf T l L.body (evalCode (lim T) L.assign (setAll L.fr L.params args) s) := by
  rw [lim_eq]; simp only [stepReq, h]
  rw [if_neg (by simp [ha])]
  unfold roundOf
  cases evalCode (lim T) L.assign (setAll L.fr L.params args) s with
  | none => rfl
  | some r =>
    obtain ⟨e, fr, s1⟩ := r
    cases e with
    | normal =>
      simp only
      unfold roundMid
      cases s1.get l with
      | none => rfl
      | some o =>
        cases o with
        | loop L1 =>
          simp only
          split
          · rfl
          · unfold roundOf2
            cases evalCode (lim T) L.body fr (s1.set l (.loop { L1 with state := .busy })) with
            | none => rfl
            | some r =>
              obtain ⟨e, fr, s3⟩ := r
              simp only [roundEnd]
              all_goals
                cases s3.get l with
                | none => rfl
                | some o => cases o <;> rfl
        | _ => rfl
    | _ => rfl
section
variable (T : Nat → Option AFun) (l k : Nat) (body a b : ACode) (fr fr' : List AVal) (s : St) (pd : Option AExit) (ps : List Nat) (st : LoopState) (e : AExit)
@[go_sem] theorem roundOf_normal : roundOf T l body (some (.normal, fr, s)) = roundMid T l body fr s (s.get l) := (rfl)
@[go_sem] theorem roundMid_ready : roundMid T l body fr s (some (.loop ⟨.ready, pd, fr', ps, a, b⟩)) = roundOf2 l (evalCode (lim T) body fr (s.set l (.loop ⟨.busy, pd, fr', ps, a, b⟩))) := (rfl)
@[go_sem] theorem roundOf2_some : roundOf2 l (some (e, fr, s)) = roundEnd l s e (s.get l) := (rfl)
@[go_sem] theorem roundEnd_normal : roundEnd l s .normal (some (.loop ⟨st, pd, fr', ps, a, b⟩)) = some (.ret, [.bool true], s.set l (.loop ⟨.ready, none, fr', ps, a, b⟩)) := (rfl)
@[go_sem] theorem roundEnd_ret : roundEnd l s .ret (some (.loop ⟨st, pd, fr', ps, a, b⟩)) = some (.ret, [.bool false], s.set l (.loop ⟨.done, some .ret, fr', ps, a, b⟩)) := (rfl)
end
end Go.Proofs.Ytlhfeiacigmliaa
