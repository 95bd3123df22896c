/- Maps. -/
import Derived.Test.YtlhfeiacigmliaaPartA
import Derived.Orders
set_option linter.all false
namespace Go.Proofs.Ytlhfeiacigmliaa
open Go

section
variable {P : Program} {ρ : Rho} {s : St} {w : World} {fr : List AVal} {e : Operand → Value}

/-- The kinds of a key's type. -/
def KeyT (P : Program) (kt : TypeId) (kagg : Bool) (kinds : List Nat) : Prop :=
  (kagg = true ∧ flatT P kt = some kinds) ∨ (kagg = false ∧ ∃ q, plainK P kt = some q ∧ kinds = [q])

theorem eqCell_refl {k : Nat} {x : AVal} (h : (eqCell k x x).isSome = true) : (∃ b, x = .bool b ∧ k = 1) ∨ (∃ kd n, x = .int kd n ∧ k = 0) ∨ (∃ b, x = .str b ∧ k = 2) := by
  unfold eqCell at h
  split at h
  · exact .inr (.inl ⟨_, _, rfl, rfl⟩)
  · exact .inl ⟨_, rfl, rfl⟩
  · exact .inr (.inr ⟨_, rfl, rfl⟩)
  · simp at h

theorem run_check_plain {t : TypeId} {k : Nat} (hk : plainK P t = some k) {x : AVal} {v : Value} (hv : VRel ρ x v) (hx : (eqCell k x x).isSome = true) (em : Bool) (n : Nat) (w : World) :
    (Instr.checkKey em (n + 1) t v).run P w = .ok () w := by
  unfold plainK at hk
  rcases eqCell_refl hx with ⟨b, rfl, rfl⟩ | ⟨kd, m, rfl, rfl⟩ | ⟨b, rfl, rfl⟩ <;> simp only [VRel] at hv <;> subst hv <;> split at hk <;> (try (cases hk; done)) <;> rename_i hu <;> simp [Instr.checkKey, run_underlying hu]

theorem run_checkFields {xv : Array Value} {xs : List AVal} (hx : CRel ρ xs xv.toList) (em : Bool) (n : Nat) :
    ∀ (fs : List Field) (k : Nat) (kinds : List Nat), fs.map (·.offset) = List.range' k fs.length → fs.mapM (fun f => plainK P f.type) = some kinds → kindsOk kinds (xs.drop k) = true →
      (forIn fs PUnit.unit (fun f _ => (do if f.name ≠ "_" then (do Instr.checkKey em (n + 1) f.type (← part f.type xv f.offset); pure (ForInStep.yield PUnit.unit)) else pure (ForInStep.yield PUnit.unit) : Sem (ForInStep PUnit)))).run P w = .ok PUnit.unit w
  | [], k, kinds, _, _, _ => by simp
  | f :: fs, k, kinds, ho, hm, hk => by
    simp only [List.mapM_cons, Option.pure_def, Option.bind_eq_bind, Option.bind_eq_some_iff, Option.some.injEq] at hm
    obtain ⟨q, hq, kinds', hk', rfl⟩ := hm
    simp only [List.map_cons, List.length_cons, List.range'_succ, List.cons.injEq] at ho
    obtain ⟨ho1, ho2⟩ := ho
    cases hdx : xs.drop k with
    | nil => rw [hdx] at hk; simp [kindsOk] at hk
    | cons xa xr =>
      rw [hdx] at hk
      simp only [kindsOk, Bool.and_eq_true] at hk
      have hxk : xs[k]? = some xa := by rw [← Nat.add_zero k, ← List.getElem?_drop, hdx]; rfl
      have hxr : xs.drop (k + 1) = xr := by rw [← List.drop_drop, hdx]; rfl
      obtain ⟨u, hu1, _, hu3⟩ := hx.get k xa hxk
      rw [← ho1] at hu1
      have ih := run_checkFields hx em n fs (k + 1) kinds' ho2 hk' (by rw [hxr]; exact hk.2)
      simp only [List.forIn_cons, Sem.run_bind, Sem.run_ite]
      split
      · simp only [run_part_cell hq hu1, Result.andThen_ok, run_check_plain hq hu3 hk.1, Sem.run_pure]
        exact ih
      · simp only [Sem.run_pure, Result.andThen_ok]
        exact ih

theorem run_checkItems {xv : Array Value} {xs : List AVal} (hx : CRel ρ xs xv.toList) (em : Bool) (m : Nat) {el : TypeId} {q : Nat} (hq : plainK P el = some q) (hsz : sizeT P el = some 1) :
    ∀ (n k : Nat), kindsOk (List.replicate n q) (xs.drop k) = true →
      (forIn (List.range' k n) PUnit.unit (fun i _ => (do Instr.checkKey em (m + 1) el (← part el xv (i * (← sizeOf el))); pure (ForInStep.yield PUnit.unit) : Sem (ForInStep PUnit)))).run P w = .ok PUnit.unit w
  | 0, k, _ => by simp
  | n + 1, k, hk => by
    simp only [List.replicate_succ] at hk
    cases hdx : xs.drop k with
    | nil => rw [hdx] at hk; simp [kindsOk] at hk
    | cons xa xr =>
      rw [hdx] at hk
      simp only [kindsOk, Bool.and_eq_true] at hk
      have hxk : xs[k]? = some xa := by rw [← Nat.add_zero k, ← List.getElem?_drop, hdx]; rfl
      have hxr : xs.drop (k + 1) = xr := by rw [← List.drop_drop, hdx]; rfl
      obtain ⟨u, hu1, _, hu3⟩ := hx.get k xa hxk
      have ih := run_checkItems hx em m hq hsz n (k + 1) (by rw [hxr]; exact hk.2)
      have hu1' : xv.toList[k * 1]? = some u := by simpa using hu1
      simp only [List.range'_succ, List.forIn_cons, Sem.run_bind, run_size hsz, Result.andThen_ok, run_part_cell hq hu1', run_check_plain hq hu3 hk.1, Sem.run_pure]
      exact ih

theorem run_checkKey' {kt : TypeId} {kagg : Bool} {kinds : List Nat} (hkt : KeyT P kt kagg kinds) {k : List AVal} {v : Value} (hk : KeyRel ρ kagg k v) (hok : kindsOk kinds k = true) (em : Bool) (n : Nat) (w : World) :
    (Instr.checkKey em (n + 2) kt v).run P w = .ok () w := by
  obtain ⟨hc, hagg⟩ := hk
  rcases hkt with ⟨rfl, ht⟩ | ⟨rfl, q, hq, rfl⟩
  · obtain ⟨xv, rfl⟩ := hagg.1 rfl
    simp only [Value.cells] at hc
    unfold flatT at ht
    split at ht
    · rename_i fs hu
      split at ht
      · rename_i hcd
        simp only [Bool.and_eq_true, Bool.not_eq_true', beq_iff_eq, List.all_eq_true, bne_iff_ne] at hcd
        obtain ⟨⟨⟨h1, h2⟩, h3⟩, h4⟩ := hcd
        have := run_checkFields (P := P) (w := w) hc em n fs.toList 0 kinds (by rw [h4, List.range_eq_range']; simp) ht (by simpa using hok)
        rw [Instr.checkKey]
        simp only [Sem.run_bind, run_underlying hu, Result.andThen_ok]
        rw [← Array.forIn_toList, this]
        rfl
      · cases ht
    · rename_i m el hu
      split at ht
      · rename_i hcd
        simp only [Bool.and_eq_true, Bool.not_eq_true', beq_iff_eq] at hcd
        simp only [Option.map_eq_some_iff] at ht
        obtain ⟨q, hq, rfl⟩ := ht
        have := run_checkItems (P := P) (w := w) hc em n hq hcd.2 m 0 (by simpa using hok)
        rw [Instr.checkKey]
        simp only [Sem.run_bind, run_underlying hu, Result.andThen_ok]
        simp only [Std.Legacy.Range.forIn_eq_forIn_range', Std.Legacy.Range.size, Nat.sub_zero, Nat.add_one_sub_one, Nat.div_one]
        rw [this]
        rfl
      · cases ht
    · cases ht
  · cases k with
    | nil => simp [kindsOk] at hok
    | cons x xs =>
      cases xs with
      | cons _ _ => simp [kindsOk] at hok
      | nil =>
        simp only [kindsOk, Bool.and_true] at hok
        simp only [CRel] at hc
        obtain ⟨u, us, h1, h2, h3, rfl⟩ := hc
        have hv : v = u := by
          cases v with
          | agg vs => exact absurd (hagg.2 ⟨vs, rfl⟩) (by simp)
          | _ => simpa [Value.cells] using h1
        subst hv
        exact run_check_plain hq h3 hok em (n + 1) w

theorem run_eqKey {kt : TypeId} {kagg : Bool} {kinds : List Nat} (hkt : KeyT P kt kagg kinds) {k k' : List AVal} {v v' : Value} (hk : KeyRel ρ kagg k v) (hk' : KeyRel ρ kagg k' v') {b : Bool} (h : eqCells kinds k k' = some b) (w : World) :
    (Op.equal kt v v').run P w = .ok b w := by
  obtain ⟨hc, hagg⟩ := hk
  obtain ⟨hc', hagg'⟩ := hk'
  rcases hkt with ⟨rfl, ht⟩ | ⟨rfl, q, hq, rfl⟩
  · obtain ⟨xv, rfl⟩ := hagg.1 rfl
    obtain ⟨yv, rfl⟩ := hagg'.1 rfl
    exact (run_eqFlat (P := P) (w := w) ht hc hc' h 9998).1
  · unfold eqCells at h
    split at h
    · rename_i hh; cases hh
    · rename_i q' ks x xs y ys hh
      cases hh
      split at h
      · rename_i a b' h1 h2
        cases h
        unfold eqCells at h2
        split at h2
        · cases h2
          simp only [CRel] at hc hc'
          obtain ⟨u, us, g1, g2, g3, rfl⟩ := hc
          obtain ⟨u', us', g1', g2', g3', rfl⟩ := hc'
          have hv : v = u := by
            cases v with
            | agg vs => exact absurd (hagg.2 ⟨vs, rfl⟩) (by simp)
            | _ => simpa [Value.cells] using g1
          have hv' : v' = u' := by
            cases v' with
            | agg vs => exact absurd (hagg'.2 ⟨vs, rfl⟩) (by simp)
            | _ => simpa [Value.cells] using g1'
          subst hv; subst hv'
          rw [Bool.and_true]
          exact run_eqPlain hq g3 g3' h1 9999 w
        · rename_i hh; cases hh
        · cases h2
      · cases h
    · cases h

theorem run_asking {kt : TypeId} {kagg : Bool} {kinds : List Nat} (hkt : KeyT P kt kagg kinds) {k : List AVal} {v : Value} (hk : KeyRel ρ kagg k v) (w : World) :
    ∀ {l : List (List AVal × AVal)} {es : List MapEntry} {i : Nat} {r : Option (Nat × AVal)}, EntRels ρ kagg l es → findA kinds k l i = some r →
      ∃ r', (Instr.findAsking kt v es i).run P w = .ok r' w ∧ (r = none → r' = none) ∧ (∀ j va, r = some (j, va) → ∃ u, r' = some (j, u) ∧ VRel ρ va u)
  | [], es, i, r, hE, h => by
    simp only [EntRels] at hE; subst hE
    simp only [findA, Option.some.injEq] at h; subst h
    exact ⟨none, by simp [Instr.findAsking], fun _ => rfl, fun _ _ h => (by cases h)⟩
  | (k', va) :: l, es, i, r, hE, h => by
    obtain ⟨x, es', rfl, h1, h2, h3⟩ := hE
    simp only [findA] at h
    split at h
    · rename_i hb
      cases h
      exact ⟨some (i, x.val), by simp [Instr.findAsking, run_eqKey hkt hk h1 hb], fun h => (by cases h), fun j va' h => (by cases h; exact ⟨_, rfl, h2⟩)⟩
    · rename_i hb
      obtain ⟨r', g1, g2, g3⟩ := run_asking hkt hk w h3 h
      exact ⟨r', by simp [Instr.findAsking, run_eqKey hkt hk h1 hb, g1], g2, g3⟩
    · cases h

theorem findNow_asking {kt : TypeId} {q : Nat} (hq : plainK P kt = some q) {d : TypeDesc} (hd : P.underlying kt = some d) {v : Value} (w : World) :
    ∀ (es : List MapEntry) (i : Nat) (r : Option (Nat × Value)), Instr.findNow d v es i = some r → ∀ r', (Instr.findAsking kt v es i).run P w = .ok r' w → r = r'
  | [], i, r, h, r', h' => by
    simp [Instr.findNow] at h; simp [Instr.findAsking] at h'; rw [← h, ← h']
  | e :: es, i, r, h, r', h' => by
    have hs : ∀ b, Instr.sameNow d v e.key = some b → (Op.equal kt v e.key).run P w = .ok b w := by
      intro b hb
      unfold Instr.sameNow at hb
      split at hb
      · rename_i heq
        rw [heq]
        split at hb
        · rename_i hkk; subst hkk; cases hb; exact run_equalIn_int w 9999 kt _ _ _ _ hd
        · cases hb
      · rename_i heq
        rw [heq]
        cases hb; rw [beq_toListBytes]; exact run_equalIn_string w 9999 kt _ _ hd
      · rename_i heq
        rw [heq]
        cases hb; exact run_equalIn_bool' w 9999 kt _ _ hd
      · cases hb
    simp only [Instr.findNow] at h
    split at h
    · rename_i hb
      cases h
      simp [Instr.findAsking, hs true hb] at h'
      exact h'
    · rename_i hb
      simp [Instr.findAsking, hs false hb] at h'
      exact findNow_asking hq hd w es (i + 1) r h r' h'
    · cases h

theorem run_findKey' {kt : TypeId} {kagg : Bool} {kinds : List Nat} (hkt : KeyT P kt kagg kinds) {k : List AVal} {v : Value} (hk : KeyRel ρ kagg k v) (w : World)
    {l : List (List AVal × AVal)} {es : List MapEntry} {r : Option (Nat × AVal)} (hE : EntRels ρ kagg l es) (h : findA kinds k l 0 = some r) :
    ∃ r', (Instr.findKey kt v es).run P w = .ok r' w ∧ (r = none → r' = none) ∧ (∀ j va, r = some (j, va) → ∃ u, r' = some (j, u) ∧ VRel ρ va u) := by
  obtain ⟨r', g1, g2⟩ := run_asking hkt hk w hE h
  refine ⟨r', ?_, g2⟩
  have hd : ∃ d, P.underlying kt = some d := by
    rcases hkt with ⟨_, ht⟩ | ⟨_, q, hq, _⟩
    · unfold flatT at ht; split at ht <;> first | exact ⟨_, by assumption⟩ | cases ht
    · unfold plainK at hq; split at hq <;> first | exact ⟨_, by assumption⟩ | cases hq
  obtain ⟨d, hd⟩ := hd
  unfold Instr.findKey
  simp only [Sem.run_bind, run_underlying hd, Result.andThen_ok]
  split
  · rename_i r0 hr0
    rw [Sem.run_pure]
    rcases hkt with ⟨_, ht⟩ | ⟨_, q, hq, _⟩
    · have hn : ∀ x, Instr.sameNow d v x = none := by
        intro x
        unfold flatT at ht
        split at ht
        · rename_i hu; rw [hd] at hu; cases hu; rfl
        · rename_i hu; rw [hd] at hu; cases hu; rfl
        · cases ht
      cases es with
      | nil => simp [Instr.findNow] at hr0; simp [Instr.findAsking] at g1; rw [← hr0, ← g1]
      | cons x xs => simp [Instr.findNow, hn] at hr0
    · rw [findNow_asking hq hd w es 0 r0 hr0 r' g1]
  · exact g1

theorem ok_lookup (hs : Sim P ρ s w) {t : TypeId} {m k : Operand} {ok : Bool} {hint : Nat} {ao : AOp} (hc : cOp P hint (.lookup t m k ok) = some ao) (hm : HOp ρ fr e m) (hk : HOp ρ fr e k)
    {v : AVal} {s' : St} (H : Han) (hev : evalOp H ao fr s = some (v, s')) (o : Oper) (ho : o.op = .lookup t m k ok) : OpOk P ρ w ((execOp e o).run P w) v s' := by
  simp only [cOp, Option.pure_def, Option.bind_eq_bind] at hc
  split at hc
  · rename_i kt el hu
    simp only [Option.bind_eq_some_iff] at hc
    obtain ⟨z, hz, hc⟩ := hc
    have key : ∀ {kagg : Bool} {kinds : List Nat} {m' k' : AOpd}, KeyT P kt kagg kinds → cOpd m = some m' → cOpd k = some k' → evalOp H (.lookup kagg kinds z ok m' k') fr s = some (v, s') → OpOk P ρ w ((execOp e o).run P w) v s' := by
      intro kagg kinds m' k' hkt hm' hk' hev
      have r1 := hm m' hm'
      have r2 := hk k' hk'
      simp only [evalOp] at hev
      split at hev
      · cases hev
      · rename_i hcd
        have hok : kindsOk kinds (k'.eval fr).cells = true := by
          cases h : kindsOk kinds (k'.eval fr).cells with
          | true => rfl
          | false => exact absurd (.inl h) hcd
        have hag : (k'.eval fr).isAgg = kagg := Decidable.byContradiction fun h => hcd (.inr h)
        split at hev
        · rename_i b hb
          split at hev
          · rename_i kagg' es hg
            split at hev
            · cases hev
            · rename_i hkk
              have hkk : kagg = kagg' := Decidable.byContradiction hkk
              subst hkk
              rw [hb] at r1; simp only [VRel] at r1
              obtain ⟨R, hmR, hme⟩ := r1
              obtain ⟨o', ho', es', clock, rfl, hE⟩ := hs.obj b R _ hmR hg
              have hnt : ∀ l, k'.eval fr ≠ .tup l := fun l hl => by
                rw [hl] at hok
                rcases hkt with ⟨h1, _⟩ | ⟨h1, q, _, rfl⟩
                · rw [hl, h1] at hag; cases hag
                · simp only [AVal.cells, kindsOk, Bool.and_true] at hok
                  rcases eqCell_refl hok with ⟨_, h2, _⟩ | ⟨_, _, h2, _⟩ | ⟨_, h2, _⟩ <;> cases h2
              have hKR : KeyRel ρ kagg (k'.eval fr).cells (e k) := ⟨r2.cells hnt, by rw [← hag]; exact r2.isAgg hnt⟩
              split at hev
              · rename_i r hf
                cases hev
                obtain ⟨r', g1, g2, g3⟩ := run_findKey' hkt hKR w hE hf
                obtain ⟨zv, hzv, hzr, _⟩ := run_zero (ρ := ρ) hz
                have hck := run_checkKey' hkt hKR hok es'.isEmpty 9998 w
                have hget : (getObj R).run P w = .ok (.map es' clock) w := by simp [getObj, Sem.run, ho']
                cases r with
                | none =>
                  have := g2 rfl; subst this
                  refine OpOk.same (v' := if ok then .tuple #[zv, .bool false] else zv) hs ?_ ?_
                  · simp only [execOp, ho, Instr.lookup, Sem.run_bind, run_underlying hu, Result.andThen_ok, hme, hget, Sem.run_pure, hck, g1, hzv]
                  · cases ok
                    · simpa using hzr
                    · simp only [if_true, VRel, VRels]
                      exact .inr ⟨_, rfl, zv, _, rfl, hzr, _, _, rfl, rfl, rfl⟩
                | some jv =>
                  obtain ⟨j, va⟩ := jv
                  obtain ⟨u, rfl, hu'⟩ := g3 j va rfl
                  refine OpOk.same (v' := if ok then .tuple #[u, .bool true] else u) hs ?_ ?_
                  · simp only [execOp, ho, Instr.lookup, Sem.run_bind, run_underlying hu, Result.andThen_ok, hme, hget, Sem.run_pure, hck, g1]
                  · cases ok
                    · simpa using hu'
                    · simp only [if_true, VRel, VRels]
                      exact .inr ⟨_, rfl, u, _, rfl, hu', _, _, rfl, rfl, rfl⟩
              · cases hev
          · cases hev
        · cases hev
    split at hc
    · rename_i kinds hkf
      simp only [Option.bind_eq_some_iff, Option.some.injEq] at hc
      obtain ⟨m', hm', k', hk', rfl⟩ := hc
      exact key (.inl ⟨rfl, hkf⟩) hm' hk' hev
    · simp only [Option.bind_eq_some_iff, Option.some.injEq] at hc
      obtain ⟨q, hq, m', hm', k', hk', rfl⟩ := hc
      exact key (.inr ⟨rfl, q, hq, rfl⟩) hm' hk' hev
  · cases hc

theorem findA_spec {kinds : List Nat} {k : List AVal} : ∀ {l : List (List AVal × AVal)} {i j : Nat} {va : AVal}, findA kinds k l i = some (some (j, va)) → ∃ m k', j = i + m ∧ l[m]? = some (k', va) ∧ eqCells kinds k k' = some true
  | [], i, j, va, h => by simp [findA] at h
  | (k', v) :: l, i, j, va, h => by
    simp only [findA] at h
    split at h
    · rename_i hb
      simp only [Option.some.injEq, Prod.mk.injEq] at h
      obtain ⟨rfl, rfl⟩ := h
      exact ⟨0, k', by simp, by simp, hb⟩
    · obtain ⟨m, k'', h1, h2, h3⟩ := findA_spec h
      exact ⟨m + 1, k'', by omega, by simpa using h2, h3⟩
    · cases h

theorem EntRels.get {kagg : Bool} : ∀ {l : List (List AVal × AVal)} {es : List MapEntry} (_ : EntRels ρ kagg l es) {j : Nat} {k : List AVal} {v : AVal}, l[j]? = some (k, v) → ∃ x, es[j]? = some x ∧ KeyRel ρ kagg k x.key ∧ VRel ρ v x.val
  | [], _, _, j, k, v, h => by simp at h
  | (k', v') :: l, _, hE, j, k, v, h => by
    obtain ⟨x, es', rfl, h1, h2, h3⟩ := hE
    cases j with
    | zero => simp at h; obtain ⟨rfl, rfl⟩ := h; exact ⟨x, by simp, h1, h2⟩
    | succ j => simpa using EntRels.get h3 (by simpa using h)

theorem EntRels.modify {kagg : Bool} {k : List AVal} {v : AVal} {f : MapEntry → MapEntry} (hf : ∀ x, KeyRel ρ kagg k (f x).key ∧ VRel ρ v (f x).val) :
    ∀ {l : List (List AVal × AVal)} {es : List MapEntry} (_ : EntRels ρ kagg l es) (j : Nat), EntRels ρ kagg (l.modify j fun _ => (k, v)) (es.modify j f)
  | [], _, hE, j => by simp only [EntRels] at hE; subst hE; simp [EntRels]
  | e :: l, _, hE, j => by
    obtain ⟨x, es', rfl, h1, h2, h3⟩ := hE
    cases j with
    | zero => simp only [List.modify_zero_cons, EntRels]; exact ⟨_, _, rfl, (hf x).1, (hf x).2, h3⟩
    | succ j => simp only [List.modify_succ_cons, EntRels]; exact ⟨_, _, rfl, h1, h2, EntRels.modify hf h3 j⟩

theorem EntRels.push {kagg : Bool} {k : List AVal} {v : AVal} {x : MapEntry} (h1 : KeyRel ρ kagg k x.key) (h2 : VRel ρ v x.val) :
    ∀ {l : List (List AVal × AVal)} {es : List MapEntry} (_ : EntRels ρ kagg l es), EntRels ρ kagg (l ++ [(k, v)]) (es ++ [x])
  | [], _, hE => by simp only [EntRels] at hE; subst hE; simp only [List.nil_append, EntRels]; exact ⟨_, _, rfl, h1, h2, rfl⟩
  | e :: l, _, hE => by
    obtain ⟨y, es', rfl, g1, g2, g3⟩ := hE
    simp only [List.cons_append, EntRels]; exact ⟨_, _, rfl, g1, g2, EntRels.push h1 h2 g3⟩

theorem sameBits_cell {k : Nat} {x y : AVal} {u v : Value} (h : eqCell k x y = some true) (hx : VRel ρ x u) (hy : VRel ρ y v) (n : Nat) : Instr.sameBits n v u = true := by
  unfold eqCell at h
  split at h
  · simp only [VRel] at hx hy; subst hx; subst hy
    split at h
    · rename_i hk; subst hk; simp at h; subst h; simp [Instr.sameBits]
    · cases h
  · simp only [VRel] at hx hy; subst hx; subst hy; simp at h; subst h; simp [Instr.sameBits]
  · simp only [VRel] at hx hy; subst hx; subst hy
    simp only [Option.some.injEq] at h
    rw [beq_toListBytes] at h
    simp only [Instr.sameBits]
    rw [beq_toListBytes, beq_iff_eq] at *
    exact h.symm
  · cases h

theorem sameBits_cells : ∀ {kinds : List Nat} {xs ys : List AVal} {us vs : List Value}, eqCells kinds xs ys = some true → CRel ρ xs us → CRel ρ ys vs → ∀ n, us.length = vs.length ∧ (vs.zip us).all (fun (x : Value × Value) => Instr.sameBits n x.1 x.2) = true
  | kinds, xs, ys, us, vs, h, hx, hy, n => by
    induction kinds generalizing xs ys us vs with
    | nil =>
      unfold eqCells at h
      split at h
      · simp only [CRel] at hx hy; subst hx; subst hy; simp
      · simp_all
      · cases h
    | cons k ks ih =>
      cases xs with
      | nil => simp [eqCells] at h
      | cons x xs =>
        cases ys with
        | nil => simp [eqCells] at h
        | cons y ys =>
          simp only [eqCells] at h
          split at h
          · rename_i a b h1 h2
            simp only [Option.some.injEq, Bool.and_eq_true] at h
            obtain ⟨rfl, rfl⟩ := h
            simp only [CRel] at hx hy
            obtain ⟨u, us', rfl, _, g1, g2⟩ := hx
            obtain ⟨v, vs', rfl, _, g3, g4⟩ := hy
            obtain ⟨h3, h4⟩ := ih (xs := xs) (ys := ys) (us := us') (vs := vs') h2 g2 g4
            exact ⟨by simp [h3], by simp only [List.zip_cons_cons, List.all_cons, sameBits_cell h1 g1 g3, h4, Bool.and_self]⟩
          · cases h

theorem sameBits_key {kagg : Bool} {kinds : List Nat} {k k' : List AVal} {v v' : Value} (hk : KeyRel ρ kagg k v) (hk' : KeyRel ρ kagg k' v') (h : eqCells kinds k k' = some true) (n : Nat) : Instr.sameBits (n + 1) v' v = true := by
  obtain ⟨hc, hagg⟩ := hk
  obtain ⟨hc', hagg'⟩ := hk'
  cases kagg with
  | true =>
    obtain ⟨xv, rfl⟩ := hagg.1 rfl
    obtain ⟨yv, rfl⟩ := hagg'.1 rfl
    simp only [Value.cells] at hc hc'
    obtain ⟨h1, h2⟩ := sameBits_cells h hc hc' n
    simp only [Instr.sameBits, Bool.and_eq_true, beq_iff_eq]
    exact ⟨by simpa using h1.symm, h2⟩
  | false =>
    have e1 : v.cells.toList = [v] := by
      cases v with
      | agg vs => exact absurd (hagg.2 ⟨vs, rfl⟩) (by simp)
      | _ => rfl
    have e2 : v'.cells.toList = [v'] := by
      cases v' with
      | agg vs => exact absurd (hagg'.2 ⟨vs, rfl⟩) (by simp)
      | _ => rfl
    rw [e1] at hc; rw [e2] at hc'
    obtain ⟨_, h2⟩ := sameBits_cells h hc hc' (n + 1)
    simpa using h2

theorem ok_mapUpdate (hs : Sim P ρ s w) {t : TypeId} {m k x : Operand} {hint : Nat} {ao : AOp} (hc : cOp P hint (.mapUpdate t m k x) = some ao) (hm : HOp ρ fr e m) (hk : HOp ρ fr e k) (hx : HOp ρ fr e x)
    {v : AVal} {s' : St} (H : Han) (hev : evalOp H ao fr s = some (v, s')) (o : Oper) (ho : o.op = .mapUpdate t m k x) : OpOk P ρ w ((execOp e o).run P w) v s' := by
  simp only [cOp, Option.pure_def, Option.bind_eq_bind] at hc
  split at hc
  · rename_i kt el hu
    have key : ∀ {kagg : Bool} {kinds : List Nat} {m' k' x' : AOpd}, KeyT P kt kagg kinds → cOpd m = some m' → cOpd k = some k' → cOpd x = some x' → evalOp H (.mapUpdate kagg kinds m' k' x') fr s = some (v, s') → OpOk P ρ w ((execOp e o).run P w) v s' := by
      intro kagg kinds m' k' x' hkt hm' hk' hx' hev
      have r1 := hm m' hm'
      have r2 := hk k' hk'
      have r3 := hx x' hx'
      simp only [evalOp] at hev
      split at hev
      · cases hev
      · rename_i hcd
        have hok : kindsOk kinds (k'.eval fr).cells = true := by
          cases h : kindsOk kinds (k'.eval fr).cells with
          | true => rfl
          | false => exact absurd (.inl h) hcd
        have hag : (k'.eval fr).isAgg = kagg := Decidable.byContradiction fun h => hcd (.inr h)
        split at hev
        · rename_i b hb
          split at hev
          · rename_i kagg' es hg
            split at hev
            · cases hev
            · rename_i hkk
              have hkk : kagg = kagg' := Decidable.byContradiction hkk
              subst hkk
              rw [hb] at r1; simp only [VRel] at r1
              obtain ⟨R, hmR, hme⟩ := r1
              obtain ⟨o', ho', es', clock, rfl, hE⟩ := hs.obj b R _ hmR hg
              have hnt : ∀ l, k'.eval fr ≠ .tup l := fun l hl => by
                rw [hl] at hok
                rcases hkt with ⟨h1, _⟩ | ⟨h1, q, _, rfl⟩
                · rw [hl, h1] at hag; cases hag
                · simp only [AVal.cells, kindsOk, Bool.and_true] at hok
                  rcases eqCell_refl hok with ⟨_, h2, _⟩ | ⟨_, _, h2, _⟩ | ⟨_, h2, _⟩ <;> cases h2
              have hKR : KeyRel ρ kagg (k'.eval fr).cells (e k) := ⟨r2.cells hnt, by rw [← hag]; exact r2.isAgg hnt⟩
              have hck := run_checkKey' hkt hKR hok false 9998 w
              have hget : (getObj R).run P w = .ok (.map es' clock) w := by simp [getObj, Sem.run, ho']
              have hset : ∀ ob : Obj, (setObj R ob).run P w = .ok () { w with heap := w.heap.setIfInBounds R ob } := fun ob => by simp [setObj, Sem.run, ho']
              split at hev
              · rename_i j va hf
                cases hev
                obtain ⟨r', g1, _, g3⟩ := run_findKey' hkt hKR w hE hf
                obtain ⟨u, rfl, hu'⟩ := g3 j va rfl
                obtain ⟨i, k'', hj, hl, heq⟩ := findA_spec hf
                have hj' : j = i := by omega
                subst hj'
                obtain ⟨y, hy, hyk, _⟩ := hE.get hl
                have hy' : es'[j]? = some y := by rw [← Array.getElem?_toList]; exact hy
                have hsb := sameBits_key hKR hyk heq 9999
                refine ⟨.skip, undef, { w with heap := w.heap.setIfInBounds R (.map (es'.modify j fun z => { z with key := e k, val := e x }) clock) }, ρ, ?_, .inr ⟨rfl, rfl⟩, by simp [undefA, VRel, VRels, undef], hs.put hmR hg ⟨_, clock, rfl, ?_⟩ rfl, Fwd.put hmR rfl⟩
                · simp only [execOp, ho, Instr.mapUpdate, Sem.run_bind, run_underlying hu, Result.andThen_ok, hme, hget, Sem.run_pure, hck, g1, hy', Option.map_some, Option.getD_some, Instr.keyThatStays, hsb, if_true, hset]
                · rw [Array.toList_modify]
                  exact EntRels.modify (fun z => ⟨hKR, r3⟩) hE j
              · rename_i hf
                cases hev
                obtain ⟨r', g1, g2, _⟩ := run_findKey' hkt hKR w hE hf
                have := g2 rfl; subst this
                refine ⟨.skip, undef, { w with heap := w.heap.setIfInBounds R (.map (es'.push { key := e k, val := e x, born := clock }) (clock + 1)) }, ρ, ?_, .inr ⟨rfl, rfl⟩, by simp [undefA, VRel, VRels, undef], hs.put hmR hg ⟨_, clock + 1, rfl, ?_⟩ rfl, Fwd.put hmR rfl⟩
                · simp only [execOp, ho, Instr.mapUpdate, Sem.run_bind, run_underlying hu, Result.andThen_ok, hme, hget, Sem.run_pure, hck, g1, hset]
                · rw [Array.toList_push]
                  exact EntRels.push hKR r3 hE
              · cases hev
          · cases hev
        · cases hev
    split at hc
    · rename_i kinds hkf
      simp only [Option.bind_eq_some_iff, Option.some.injEq] at hc
      obtain ⟨m', hm', k', hk', x', hx', rfl⟩ := hc
      exact key (.inl ⟨rfl, hkf⟩) hm' hk' hx' hev
    · simp only [Option.bind_eq_some_iff, Option.some.injEq] at hc
      obtain ⟨q, hq, m', hm', k', hk', x', hx', rfl⟩ := hc
      exact key (.inr ⟨rfl, q, hq, rfl⟩) hm' hk' hx' hev
  · cases hc
end
end Go.Proofs.Ytlhfeiacigmliaa

/- All operations but calls, together. -/
namespace Go.Proofs.Ytlhfeiacigmliaa
open Go

def AOp.isCall : AOp → Bool
  | .call .. | .callv .. => true
  | _ => false

section
variable {P : Program} {ρ : Rho} {s : St} {w : World} {fr : List AVal} {e : Operand → Value}

theorem op_ok (hs : Sim P ρ s w) {o : Oper} {hint : Nat} {ao : AOp} (hc : cOp P hint o.op = some ao) (HO : ∀ x ∈ o.op.operands.toList, HOp ρ fr e x) (hcall : ao.isCall = false)
    {v : AVal} {s' : St} (H : Han) (hev : evalOp H ao fr s = some (v, s')) : OpOk P ρ w ((execOp e o).run P w) v s' := by
  generalize ho : o.op = op at hc HO
  cases op with
  | move x =>
    simp only [cOp, Option.pure_def, Option.bind_eq_bind, Option.bind_eq_some_iff, Option.some.injEq] at hc
    obtain ⟨y, hy, rfl⟩ := hc
    simp only [evalOp, Option.some.injEq, Prod.mk.injEq] at hev
    obtain ⟨rfl, rfl⟩ := hev
    simp only [execOp, ho]
    exact ok_move hs (HO x (by simp [Op.operands])) hy
  | assign x =>
    simp only [cOp, Option.pure_def, Option.bind_eq_bind, Option.bind_eq_some_iff, Option.some.injEq] at hc
    obtain ⟨y, hy, rfl⟩ := hc
    simp only [evalOp, Option.some.injEq, Prod.mk.injEq] at hev
    obtain ⟨rfl, rfl⟩ := hev
    simp only [execOp, ho]
    exact ok_move hs (HO x (by simp [Op.operands])) hy
  | pick c a b =>
    simp only [cOp, Option.pure_def, Option.bind_eq_bind, Option.bind_eq_some_iff, Option.some.injEq] at hc
    obtain ⟨c', hc', a', ha', b', hb', rfl⟩ := hc
    simp only [execOp, ho]
    exact ok_pick hs (HO c (by simp [Op.operands])) (HO a (by simp [Op.operands])) (HO b (by simp [Op.operands])) hc' ha' hb' H hev
  | alloc t =>
    simp only [cOp, Option.pure_def, Option.bind_eq_bind, Option.bind_eq_some_iff, Option.some.injEq] at hc
    obtain ⟨z, hz, rfl⟩ := hc
    simp only [evalOp, Option.some.injEq, Prod.mk.injEq] at hev
    obtain ⟨rfl, rfl⟩ := hev
    simp only [execOp, ho]
    exact ok_alloc hs hz
  | box t x =>
    simp only [execOp, ho]
    exact ok_box hs hc (HO x (by simp [Op.operands])) H hev
  | build t parts =>
    simp only [execOp, ho]
    exact ok_build hs hc (fun x hx => HO x.2 (by simp only [Op.operands, List.mem_map]; exact ⟨x, hx, rfl⟩)) H hev
  | buildSlice t len parts =>
    simp only [execOp, ho]
    exact ok_buildSl hs hc (fun x hx => HO x.2 (by simp only [Op.operands, List.mem_map]; exact ⟨x, hx, rfl⟩)) H hev
  | insert t m k v => simp [cOp] at hc
  | load t a =>
    simp only [execOp, ho]
    exact ok_load hs hc (HO a (by simp [Op.operands])) H hev
  | store t a x =>
    simp only [execOp, ho]
    exact ok_store hs hc (HO a (by simp [Op.operands])) (HO x (by simp [Op.operands])) H hev
  | ready g => simp [cOp] at hc
  | waits g => simp [cOp] at hc
  | nilCheck x =>
    simp only [cOp, Option.pure_def, Option.bind_eq_bind, Option.bind_eq_some_iff, Option.some.injEq] at hc
    obtain ⟨y, hy, rfl⟩ := hc
    exact ok_nilCheck hs (HO x (by simp [Op.operands])) hy H hev o ho
  | binOp op t x y yt =>
    have hx := HO x (by simp [Op.operands])
    have hy := HO y (by simp [Op.operands])
    simp only [cOp, Option.pure_def, Option.bind_eq_bind] at hc
    split at hc
    · simp only [Option.bind_eq_some_iff, Option.some.injEq] at hc
      obtain ⟨x', hx', y', hy', rfl⟩ := hc
      exact ok_bin hs hx hy hx' hy' H hev o ho
    · split at hc
      · rename_i hn hop
        split at hc
        · rename_i kinds hk
          simp only [Option.bind_eq_some_iff, Option.some.injEq] at hc
          obtain ⟨x', hx', y', hy', rfl⟩ := hc
          exact ok_eqagg hs hx hy hx' hy' hop hk H hev o ho
        · split at hc
          · rename_i hpl
            simp only [Option.bind_eq_some_iff, Option.some.injEq] at hc
            obtain ⟨x', hx', y', hy', rfl⟩ := hc
            have hb : P.underlying t = some .bool := by
              unfold plainT at hpl
              unfold numT at hn
              split at hpl <;> simp_all
            exact ok_eqb hs hx hy hx' hy' hop hb H hev o ho
          · simp only [Option.bind_eq_some_iff, Option.some.injEq] at hc
            obtain ⟨kd, hkd, x', hx', y', hy', rfl⟩ := hc
            exact ok_eqnil hs hx hy hx' hy' hop hkd H hev o ho
      · cases hc
  | unOp op t x =>
    simp only [cOp, Option.pure_def, Option.bind_eq_bind, Option.bind_eq_some_iff, Option.some.injEq] at hc
    obtain ⟨y, hy, rfl⟩ := hc
    exact ok_un hs (HO x (by simp [Op.operands])) hy H hev o ho
  | convert a b x => exact ok_conv hs (HO x (by simp [Op.operands])) hc H hev o ho
  | sliceToArrayPointer a x => simp [cOp] at hc
  | makeInterface t x => simp [cOp] at hc
  | makeFunc f first cap =>
    simp only [cOp, Option.pure_def, Option.bind_eq_bind, Option.bind_eq_some_iff, Option.some.injEq] at hc
    obtain ⟨fi, hfi, ca, hca, rfl⟩ := hc
    exact ok_mkFn hs (fun x hx => HO x (by simp only [Op.operands, Array.toList_append, List.mem_append]; exact .inl hx)) (fun x hx => HO x (by simp only [Op.operands, Array.toList_append, List.mem_append]; exact .inr hx)) hfi hca H hev o ho
  | makeMap t r =>
    cases r with
    | some r => simp [cOp] at hc
    | none =>
      simp only [cOp, Option.pure_def] at hc
      split at hc
      · cases hc
        exact ok_mkMap hs H hev o ho
      · cases hc
  | makeChan t x => simp [cOp] at hc
  | makeSlice t l c => exact ok_mkSlice hs (HO l (by simp [Op.operands])) (HO c (by simp [Op.operands])) hc H hev o ho
  | slice t x lo hi mx =>
    exact ok_slice hs hc (HO x (by simp [Op.operands])) (fun o h => HO o (by subst h; simp [Op.operands])) (fun o h => HO o (by subst h; simp [Op.operands])) (fun o h => HO o (by subst h; simp [Op.operands])) H hev o ho
  | fieldAddr t x f => exact ok_fieldAddr hs hc (HO x (by simp [Op.operands])) H hev o ho
  | field t x f => exact ok_field hs hc (HO x (by simp [Op.operands])) H hev o ho
  | indexAddr t x i => exact ok_indexAddr hs hc (HO x (by simp [Op.operands])) (HO i (by simp [Op.operands])) H hev o ho
  | index t x i => exact ok_index hs hc (HO x (by simp [Op.operands])) (HO i (by simp [Op.operands])) H hev o ho
  | lookup t m k ok => exact ok_lookup hs hc (HO m (by simp [Op.operands])) (HO k (by simp [Op.operands])) H hev o ho
  | mapUpdate t m k v => exact ok_mapUpdate hs hc (HO m (by simp [Op.operands])) (HO k (by simp [Op.operands])) (HO v (by simp [Op.operands])) H hev o ho
  | mapEntry t m k => simp [cOp] at hc
  | entryStore t m s v => simp [cOp] at hc
  | range t x => simp [cOp] at hc
  | next x b => simp [cOp] at hc
  | entry x => simp [cOp] at hc
  | typeAssert x t u ok => simp [cOp] at hc
  | extract x i =>
    simp only [cOp, Option.pure_def, Option.bind_eq_bind, Option.bind_eq_some_iff, Option.some.injEq] at hc
    obtain ⟨y, hy, rfl⟩ := hc
    exact ok_extract hs (HO x (by simp [Op.operands])) hy H hev o ho
  | call c =>
    have hargs : ∀ x ∈ c.args.toList, HOp ρ fr e x := fun x hx => HO x (by simp only [Op.operands, Call.operands, Array.toList_append, List.mem_append]; exact .inr hx)
    have hc0 := hc
    simp only [cOp, Option.pure_def, Option.bind_eq_bind] at hc
    split at hc
    · split at hc
      · simp only [Option.bind_eq_some_iff, Option.some.injEq] at hc
        obtain ⟨_, _, rfl⟩ := hc
        simp [AOp.isCall] at hcall
      · cases hc
    · simp only [Option.bind_eq_some_iff, Option.some.injEq] at hc
      obtain ⟨_, _, _, _, rfl⟩ := hc
      simp [AOp.isCall] at hcall
    · rename_i hcal; exact ok_len hs hcal hc0 hargs H hev o ho
    · rename_i hcal; exact ok_append hs hcal hc0 hargs H hev o ho
    · rename_i hcal
      simp only [Option.bind_eq_some_iff, Option.some.injEq] at hc
      obtain ⟨as, has, rfl⟩ := hc
      exact ok_maxmin (isMax := true) hs hcal has hargs H hev o ho
    · rename_i hcal
      simp only [Option.bind_eq_some_iff, Option.some.injEq] at hc
      obtain ⟨as, has, rfl⟩ := hc
      exact ok_maxmin (isMax := false) hs hcal has hargs H hev o ho
    · cases hc
  | go c => simp [cOp] at hc
  | defer c => simp [cOp] at hc
  | panic x => simp [cOp] at hc
  | send c x => simp [cOp] at hc
  | recv t c ok => simp [cOp] at hc
  | select cs b => simp [cOp] at hc
end
end Go.Proofs.Ytlhfeiacigmliaa

/- Steps of the machine, for a frame that runs (in a round of a loop over a function, too). -/
namespace Go.Proofs.Ytlhfeiacigmliaa
open Go

/-- A frame that runs. -/
def fr8 (fn : FuncId) (tmps : Array Value) (todo : List Item) (ds : List Deferred) (kind : CallKind) (ro : Option Nat) : Frame :=
  { fn, tmps, todo, defers := ds, mode := .run, kind, roundOf := ro }

def evT (tmps : Array Value) : Operand → Value
  | .tmp t => tmps.getD t undef
  | .const v => v
  | .global g => .pointer (some ⟨g, 0, none⟩)
  | .func f => .func (.func f) #[] #[]

def putT (tmps : Array Value) (dst : Option Tmp) (v : Value) : Array Value :=
  match dst with
  | some d => tmps.setIfInBounds d v
  | none => tmps

section
variable {P : Program} {fn : FuncId} {tmps : Array Value} {k : List Item} {ds : List Deferred} {kind : CallKind} {ro : Option Nat} {cs : List Frame} {w w' : World}

theorem eval_fr8 (todo : List Item) : (fr8 fn tmps todo ds kind ro).eval = evT tmps := by funext x; cases x <;> rfl

theorem st_skip : step P (lone (fr8 fn tmps (.code .skip :: k) ds kind ro) cs w) = .next (lone (fr8 fn tmps k ds kind ro) cs w) :=
  step_lone_go (by simp [stepG, stepG.exec, fr8])
theorem st_label {l : Nat} : step P (lone (fr8 fn tmps (.code (.label l) :: k) ds kind ro) cs w) = .next (lone (fr8 fn tmps k ds kind ro) cs w) :=
  step_lone_go (by simp [stepG, stepG.exec, fr8])
theorem st_inBlock {id : Nat} : step P (lone (fr8 fn tmps (.inBlock id :: k) ds kind ro) cs w) = .next (lone (fr8 fn tmps k ds kind ro) cs w) :=
  step_lone_go (by simp [stepG, stepG.exec, fr8])
theorem st_inScope {b : Code} : step P (lone (fr8 fn tmps (.inScope b :: k) ds kind ro) cs w) = .next (lone (fr8 fn tmps k ds kind ro) cs w) :=
  step_lone_go (by simp [stepG, stepG.exec, fr8])
theorem st_seq {a b : Code} : step P (lone (fr8 fn tmps (.code (.seq a b) :: k) ds kind ro) cs w) = .next (lone (fr8 fn tmps (.code a :: .code b :: k) ds kind ro) cs w) :=
  step_lone_go (by simp [stepG, stepG.exec, fr8])
theorem st_block {id : Nat} {c : Code} : step P (lone (fr8 fn tmps (.code (.block id c) :: k) ds kind ro) cs w) = .next (lone (fr8 fn tmps (.code c :: .inBlock id :: k) ds kind ro) cs w) :=
  step_lone_go (by simp [stepG, stepG.exec, fr8])
theorem st_loop {c : Code} : step P (lone (fr8 fn tmps (.code (.loop c) :: k) ds kind ro) cs w) = .next (lone (fr8 fn tmps (.code c :: .inLoop c :: k) ds kind ro) cs w) :=
  step_lone_go (by simp [stepG, stepG.exec, fr8])
theorem st_inLoop {c : Code} : step P (lone (fr8 fn tmps (.inLoop c :: k) ds kind ro) cs w) = .next (lone (fr8 fn tmps (.code c :: .inLoop c :: k) ds kind ro) cs w) :=
  step_lone_go (by simp [stepG, stepG.exec, fr8])
theorem st_scope {c : Code} : step P (lone (fr8 fn tmps (.code (.scope c) :: k) ds kind ro) cs w) = .next (lone (fr8 fn tmps (.code c :: .inScope c :: k) ds kind ro) cs w) :=
  step_lone_go (by simp [stepG, stepG.exec, fr8])
theorem st_cond {c : Operand} {a b : Code} {t : Bool} (h : evT tmps c = .bool t) :
    step P (lone (fr8 fn tmps (.code (.cond c a b) :: k) ds kind ro) cs w) = .next (lone (fr8 fn tmps (.code (if t then a else b) :: k) ds kind ro) cs w) :=
  step_lone_go (by
    have he := congrFun (eval_fr8 (fn := fn) (tmps := tmps) (ds := ds) (kind := kind) (ro := ro) (.code (.cond c a b) :: k)) c
    rw [h] at he
    simp only [fr8] at he ⊢
    simp [stepG, stepG.exec, he])
theorem st_exit {id : Nat} {k' : List Item} (h : exitTo id k = some k') :
    step P (lone (fr8 fn tmps (.code (.exit id) :: k) ds kind ro) cs w) = .next (lone (fr8 fn tmps k' ds kind ro) cs w) :=
  step_lone_go (by simp [stepG, stepG.exec, fr8, h])
theorem st_ret : step P (lone (fr8 fn tmps (.code .ret :: k) ds kind none) cs w) = .next (lone { fr8 fn tmps (.code .ret :: k) ds kind none with mode := .returning } cs w) :=
  step_lone_go (by simp [stepG, stepG.exec, fr8])
theorem st_end : step P (lone (fr8 fn tmps [] ds kind none) cs w) = .next (lone { fr8 fn tmps [] ds kind none with mode := .returning } cs w) :=
  step_lone_go (by simp [stepG, stepG.exec, fr8])

theorem st_region {id : Nat} {ops : Array Oper} : step P (lone (fr8 fn tmps (.code (.region id ops false) :: k) ds kind ro) cs w) = .next (lone (fr8 fn tmps (.inRegion ops (List.range ops.size) :: k) ds kind ro) cs w) :=
  step_lone_go (by simp [stepG, stepG.exec, fr8])
theorem st_region_draw {id : Nat} {ops : Array Oper} :
    step P (lone (fr8 fn tmps (.code (.region id ops true) :: k) ds kind ro) cs w) =
      .next (lone (fr8 fn tmps (.inRegion ops (Region.schedule (P.follows .mixedOrders) ops (w.tape w.drawn (.order fn id))) :: k) ds kind ro) cs { w with drawn := w.drawn + 1 }) :=
  step_lone_go (by simp [stepG, stepG.exec, fr8, choose, Sem.run, Question.forced, Question.cut])
theorem st_region_end {ops : Array Oper} : step P (lone (fr8 fn tmps (.inRegion ops [] :: k) ds kind ro) cs w) = .next (lone (fr8 fn tmps k ds kind ro) cs w) :=
  step_lone_go (by simp [stepG, stepG.exec, fr8])

theorem finish_fr8 (ops : Array Oper) (i : Nat) (rest : List Nat) (v : Value) :
    (fr8 fn tmps (.inRegion ops (i :: rest) :: k) ds kind ro).finish v = fr8 fn (putT tmps ((ops[i]?).bind (·.dst)) v) (.inRegion ops rest :: k) ds kind ro := by
  cases h : (ops[i]?).bind (·.dst) <;> simp [Frame.finish, fr8, putT, h]

theorem st_op_skip {ops : Array Oper} {i : Nat} {rest : List Nat} (h : ((ops[i]?).map (Region.wanted · (yielded ops tmps))).getD false = false) :
    step P (lone (fr8 fn tmps (.inRegion ops (i :: rest) :: k) ds kind ro) cs w) = .next (lone (fr8 fn (putT tmps ((ops[i]?).bind (·.dst)) undef) (.inRegion ops rest :: k) ds kind ro) cs w) := by
  rw [← finish_fr8]
  exact step_lone_go (by simp only [fr8]; simp [stepG, stepG.exec, h])

theorem stepG_op' {ops : Array Oper} {i : Nat} {rest : List Nat} {o : Oper} (ho : ops[i]? = some o) (hw : Region.wanted o (yielded ops tmps) = true) (hd : ∀ c, o.op ≠ .defer c) :
    stepG P true { frame := fr8 fn tmps (.inRegion ops (i :: rest) :: k) ds kind ro, callers := cs, status := .running, dying := none } w =
      stepG.apply P true (fr8 fn tmps (.inRegion ops (i :: rest) :: k) ds kind ro) cs none (execOp (evT tmps) o) w := by
  have he := eval_fr8 (fn := fn) (tmps := tmps) (ds := ds) (kind := kind) (ro := ro) (.inRegion ops (i :: rest) :: k)
  simp only [fr8] at he ⊢
  simp only [stepG, stepG.exec, ho, Option.map_some, Option.getD_some, hw, if_true, stepG.oper, Frame.oper?]
  rw [← he]
  split
  · rename_i c hc; exact absurd hc (hd c)
  · rfl

theorem st_op {ops : Array Oper} {i : Nat} {rest : List Nat} {o : Oper} (ho : ops[i]? = some o) (hw : Region.wanted o (yielded ops tmps) = true) (hd : ∀ c, o.op ≠ .defer c) {nx : Next} {v : Value}
    (hr : (execOp (evT tmps) o).run P w = .ok nx w') (hn : nx = .value v ∨ (nx = .skip ∧ v = undef)) :
    step P (lone (fr8 fn tmps (.inRegion ops (i :: rest) :: k) ds kind ro) cs w) = .next (lone (fr8 fn (putT tmps o.dst v) (.inRegion ops rest :: k) ds kind ro) cs w') := by
  have hf := finish_fr8 (fn := fn) (tmps := tmps) (k := k) (ds := ds) (kind := kind) (ro := ro) ops i rest v
  rw [ho] at hf
  simp only [Option.bind_some] at hf
  rw [← hf]
  refine step_lone_go ?_
  rw [stepG_op' ho hw hd]
  rcases hn with rfl | ⟨rfl, rfl⟩ <;> simp [stepG.apply, hr]

theorem st_enter {ops : Array Oper} {i : Nat} {rest : List Nat} {o : Oper} (ho : ops[i]? = some o) (hw : Region.wanted o (yielded ops tmps) = true) (hd : ∀ c, o.op ≠ .defer c) {f : FuncId} {args : Array Value}
    (hr : (execOp (evT tmps) o).run P w = .ok (.enter f args) w') :
    step P (lone (fr8 fn tmps (.inRegion ops (i :: rest) :: k) ds kind ro) cs w) = .next (lone (Frame.enter P f args .normal) (fr8 fn tmps (.inRegion ops (i :: rest) :: k) ds kind ro :: cs) w') := by
  refine step_lone_go ?_
  rw [stepG_op' ho hw hd]
  simp [stepG.apply, hr, fr8]

theorem st_round {ops : Array Oper} {i : Nat} {rest : List Nat} {o : Oper} (ho : ops[i]? = some o) (hw : Region.wanted o (yielded ops tmps) = true) (hd : ∀ c, o.op ≠ .defer c) {l : Nat} {f : FuncId} {args : Array Value} {a b : Code}
    (hr : (execOp (evT tmps) o).run P w = .ok (.round l f args a b) w') :
    step P (lone (fr8 fn tmps (.inRegion ops (i :: rest) :: k) ds kind ro) cs w) = .next (lone (Frame.round l f args a b .normal) (fr8 fn tmps (.inRegion ops (i :: rest) :: k) ds kind ro :: cs) w') := by
  refine step_lone_go ?_
  rw [stepG_op' ho hw hd]
  simp [stepG.apply, hr, fr8]

end
end Go.Proofs.Ytlhfeiacigmliaa

/- Soundness, first part: one operation of a region, with calls. -/
namespace Go.Proofs.Ytlhfeiacigmliaa
open Go

def TblOk (P : Program) (tbl : Nat → Option AFun) : Prop := ∀ k F, tbl k = some F → ∃ fn hint kp gc, P.funcs[k % 4096]? = some fn ∧ cFun P hint kp gc fn = some F ∧ okBody P (k % 4096) = true

def CallOk (P : Program) (H : Han) : Prop := ∀ f args s e vs s', H (.call f args) s = some (e, vs, s') → okBody P (f % 4096) = true ∧ ∃ v, vs = [v] ∧ ∀ ρ w args', Sim P ρ s w → VRels ρ args args' → ∀ C cs,
  ∃ v' w' ρ', Steps P (lone (Frame.enter P (f % 4096) args'.toArray .normal) (C :: cs) w) (lone (C.finish v') cs w') ∧ VRel ρ' v v' ∧ Sim P ρ' s' w' ∧ Fwd ρ w ρ' w'

def RoundOk (P : Program) (H : Han) : Prop := ∀ l args s e vs s', H (.round l args) s = some (e, vs, s') → ∃ v, vs = [v] ∧ ∀ ρ w args', Sim P ρ s w → VRels ρ args args' → ∀ R, ρ.m l = some R → ∃ fn tmps a b,
  (Instr.yield R args'.toArray).run P w = .ok (.round R fn tmps a b) w ∧ ∀ C cs,
  ∃ v' w' ρ', Steps P (lone (Frame.round R fn tmps a b .normal) (C :: cs) w) (lone (C.finish v') cs w') ∧ VRel ρ' v v' ∧ Sim P ρ' s' w' ∧ Fwd ρ w ρ' w'

/-- The temporary `t` is related. -/
def TRel (ρ : Rho) (fr : List AVal) (tmps : Array Value) (t : Nat) : Prop := VRel ρ (fr.getD t undefA) (tmps.getD t undef)

theorem undef_rel (ρ : Rho) : VRel ρ undefA undef := by simp [undefA, undef, VRel, VRels]

theorem VRels.trel {ρ : Rho} {fr : List AVal} {tmps : Array Value} (h : VRels ρ fr tmps.toList) (t : Nat) : TRel ρ fr tmps t := by
  unfold TRel
  have hl := h.length
  rcases Nat.lt_or_ge t fr.length with hlt | hge
  · obtain ⟨v, h1, h2⟩ := h.get t _ (List.getElem?_eq_getElem hlt)
    have h3 : tmps[t]? = some v := by rw [← Array.getElem?_toList]; exact h1
    rw [List.getD_eq_getElem?_getD, List.getElem?_eq_getElem hlt, Array.getD_eq_getD_getElem?, h3]
    exact h2
  · have h3 : tmps[t]? = none := by rw [← Array.getElem?_toList]; exact List.getElem?_eq_none (by omega)
    rw [List.getD_eq_getElem?_getD, List.getElem?_eq_none hge, Array.getD_eq_getD_getElem?, h3]
    exact undef_rel ρ

/-- The temporaries that an operation looks at. -/
def looks (ops : Array Oper) (o : Oper) : List Tmp :=
  (o.op.operands.toList.filterMap fun | .tmp t => some t | _ => none) ++ (match o.guard with | some (g, _) => ((ops[g]?).bind (·.dst)).toList | none => [])

section
variable {P : Program} {ρ : Rho} {s : St} {w : World} {fr : List AVal} {tmps : Array Value}

theorem hop_of {x : Operand} (h : ∀ t, x = .tmp t → TRel ρ fr tmps t) : HOp ρ fr (evT tmps) x := by
  intro y hy
  cases x with
  | tmp t => simp only [cOpd, Option.some.injEq] at hy; subst hy; exact h t rfl
  | const v => simp only [cOpd, Option.map_eq_some_iff] at hy; obtain ⟨a, ha, rfl⟩ := hy; exact ofValue_rel ha
  | global g => simp [cOpd] at hy
  | func f => simp only [cOpd, Option.some.injEq] at hy; subst hy; simp only [AOpd.eval, evT, VRel]; exact ⟨_, _, rfl, by simp [VRels], by simp [VRels]⟩

theorem wanted_good {g : Option (Nat × Bool)} {fr : List AVal} (h : wantedA g fr = true) : badG g fr = false := by
  unfold wantedA at h
  cases g with
  | none => rfl
  | some p =>
    obtain ⟨t, want⟩ := p
    simp only at h
    simp only [badG]
    generalize fr.getD t undefA = x at h ⊢
    cases x <;> simp_all [AVal.isAny]

theorem wanted_eq {ops : Array Oper} {o : Oper} {g : Option (Nat × Bool)} (hg : cGuard ops o.guard = some g) (h : ∀ t ∈ looks ops o, TRel ρ fr tmps t) (hbad : badG g fr = false) : Region.wanted o (yielded ops tmps) = wantedA g fr := by
  unfold cGuard at hg
  unfold Region.wanted
  split at hg
  · rename_i hn
    cases hg
    rw [hn]; rfl
  · rename_i j want hn
    split at hg
    · rename_i t ht
      cases hg
      rw [hn]
      simp only [wantedA, yielded, ht, Option.bind_some]
      have hr : TRel ρ fr tmps t := h t (by simp [looks, hn, ht])
      unfold TRel at hr
      rw [Array.getD_eq_getD_getElem?] at hr
      simp only [badG] at hbad
      generalize hx : fr.getD t undefA = x at hr hbad ⊢
      have htup : ∀ l, x = .tup l → ∀ u, VRel ρ x u → ∃ vs, u = .tuple vs := by
        intro l hl u hu
        subst hl
        simp only [VRel] at hu
        rcases hu with hu | ⟨vs, hu, _⟩
        · subst hu; simp [AVal.isAny] at hbad
        · exact ⟨vs, hu⟩
      cases hv : tmps[t]? with
      | none =>
        rw [hv] at hr
        simp only [Option.getD_none, undef] at hr
        clear htup hbad
        cases x <;> simp only [VRel] at hr <;> first | rfl | (rcases hr with ⟨_, _, _, hr⟩ | ⟨_, _, _, hr, _⟩ <;> cases hr; done) | (cases hr; done) | (obtain ⟨_, _, hr⟩ := hr; cases hr; done) | (obtain ⟨_, hr, _⟩ := hr; cases hr; done) | (obtain ⟨_, _, hr, _⟩ := hr; cases hr; done) | (obtain ⟨_, _, _, hr, _⟩ := hr; cases hr; done)
      | some v =>
        rw [hv] at hr
        simp only [Option.getD_some] at hr
        by_cases hxt : ∃ l, x = .tup l
        · obtain ⟨l, hl⟩ := hxt
          obtain ⟨vs, hu⟩ := htup l hl v hr
          subst hl; subst hu; rfl
        cases x <;> simp only [VRel] at hr
        case tup l => exact absurd ⟨l, rfl⟩ hxt
        case vsl a b d => rcases hr with ⟨_, _, _, hr⟩ | ⟨_, _, _, hr, _⟩ <;> (subst hr; rfl)
        case bool b => subst hr; cases b <;> cases want <;> rfl
        all_goals first | (subst hr; rfl) | (obtain ⟨_, _, hr⟩ := hr; subst hr; rfl) | (obtain ⟨_, hr, _⟩ := hr; subst hr; rfl) | (obtain ⟨_, _, hr, _⟩ := hr; subst hr; rfl) | (obtain ⟨_, _, _, hr, _⟩ := hr; subst hr; rfl)
    · cases hg

theorem cOp_nodefer {hint : Nat} {op : Op} {ao : AOp} (h : cOp P hint op = some ao) : ∀ c, op ≠ .defer c := by
  intro c hc; subst hc; simp [cOp] at h

theorem run_callFunc {f : FuncId} {args : Array Value} (h : okBody P f = true) : (callFunc f args).run P w = .ok (.enter f args) w := by
  unfold okBody at h
  split at h
  · rename_i fn hf
    simp only [Bool.and_eq_true, bne_iff_ne, ne_eq] at h
    obtain ⟨h1, h2⟩ := h
    have h3 : ¬ fn.body = none := by cases hb : fn.body <;> simp_all
    simp [callFunc, hf, h2, h3]
  · cases h

/-- Which operations are calls. -/
theorem cOp_isCall {hint : Nat} {op : Op} {ao : AOp} (h : cOp P hint op = some ao) (hc : ao.isCall = true) :
    ∃ c, op = .call c ∧ ((∃ f as, c.callee = .value (.func f) ∧ okBody P f = true ∧ f < 4096 ∧ cOpds c.args = some as ∧ ao = .call (f + 4096 * hint) as) ∨
      (∃ x y as, c.callee = .value x ∧ cOpd x = some y ∧ cOpds c.args = some as ∧ ao = .callv y as)) := by
  have no : ∀ {a : AOp}, ao = a → a.isCall = false → False := fun h1 h2 => by rw [h1, h2] at hc; cases hc
  cases op with
  | call c =>
    simp only [cOp, Option.pure_def, Option.bind_eq_bind] at h
    split at h
    · rename_i f hcal
      split at h
      · rename_i hb
        simp only [Bool.and_eq_true, decide_eq_true_eq] at hb
        simp only [Option.bind_eq_some_iff, Option.some.injEq] at h
        obtain ⟨as, has, rfl⟩ := h
        exact ⟨c, rfl, .inl ⟨f, as, hcal, hb.1, hb.2, has, rfl⟩⟩
      · cases h
    · rename_i x _ hcal
      simp only [Option.bind_eq_some_iff, Option.some.injEq] at h
      obtain ⟨y, hy, as, has, rfl⟩ := h
      exact ⟨c, rfl, .inr ⟨x, y, as, hcal, hy, has, rfl⟩⟩
    · split at h
      · split at h
        · simp only [Option.bind_eq_some_iff, Option.some.injEq] at h; obtain ⟨_, _, h⟩ := h; exact (no h.symm rfl).elim
        · simp only [Option.bind_eq_some_iff, Option.some.injEq] at h; obtain ⟨_, _, h⟩ := h; exact (no h.symm rfl).elim
        · cases h
      · cases h
    · split at h
      · split at h
        · cases h
        · split at h
          · simp only [Option.bind_eq_some_iff] at h
            obtain ⟨_, _, _, _, h⟩ := h
            split at h
            · cases h
            · simp only [Option.bind_eq_some_iff, Option.some.injEq] at h
              obtain ⟨_, _, _, _, h⟩ := h
              split at h <;> exact (no h.symm rfl).elim
          · cases h
      · cases h
    · simp only [Option.bind_eq_some_iff, Option.some.injEq] at h; obtain ⟨_, _, h⟩ := h; exact (no h.symm rfl).elim
    · simp only [Option.bind_eq_some_iff, Option.some.injEq] at h; obtain ⟨_, _, h⟩ := h; exact (no h.symm rfl).elim
    · cases h
  | build t parts =>
    simp only [cOp, Option.pure_def, Option.bind_eq_bind, Option.bind_eq_some_iff] at h
    obtain ⟨z, hz, h⟩ := h
    split at h
    · simp only [Option.bind_eq_some_iff, Option.some.injEq] at h; obtain ⟨_, _, _, _, h⟩ := h; exact (no h.symm rfl).elim
    · simp only [Option.bind_eq_some_iff, Option.some.injEq] at h; obtain ⟨_, _, _, _, h⟩ := h; exact (no h.symm rfl).elim
    · cases h
  | buildSlice t len parts =>
    simp only [cOp, Option.pure_def, Option.bind_eq_bind] at h
    split at h
    · simp only [Option.bind_eq_some_iff] at h
      obtain ⟨_, _, _, _, h⟩ := h
      split at h
      · cases h
      · simp only [Option.bind_eq_some_iff, Option.some.injEq] at h
        obtain ⟨_, _, h⟩ := h
        split at h <;> exact (no h.symm rfl).elim
    · cases h
  | load t a =>
    simp only [cOp, Option.pure_def, Option.bind_eq_bind, Option.bind_eq_some_iff] at h
    obtain ⟨g, _, h⟩ := h
    split at h
    · simp only [Option.bind_eq_some_iff, Option.some.injEq] at h; obtain ⟨_, _, _, _, h⟩ := h; exact (no h.symm rfl).elim
    · simp only [Option.bind_eq_some_iff, Option.some.injEq] at h; obtain ⟨_, _, h⟩ := h; exact (no h.symm rfl).elim
  | binOp op t x y yt =>
    simp only [cOp, Option.pure_def, Option.bind_eq_bind] at h
    split at h
    · simp only [Option.bind_eq_some_iff, Option.some.injEq] at h; obtain ⟨_, _, _, _, h⟩ := h; exact (no h.symm rfl).elim
    · split at h
      · split at h
        · simp only [Option.bind_eq_some_iff, Option.some.injEq] at h; obtain ⟨_, _, _, _, h⟩ := h; exact (no h.symm rfl).elim
        · split at h
          · simp only [Option.bind_eq_some_iff, Option.some.injEq] at h; obtain ⟨_, _, _, _, h⟩ := h; exact (no h.symm rfl).elim
          · simp only [Option.bind_eq_some_iff, Option.some.injEq] at h; obtain ⟨_, _, _, _, _, _, h⟩ := h; exact (no h.symm rfl).elim
      · cases h
  | convert a b x =>
    simp only [cOp, Option.pure_def, Option.bind_eq_bind] at h
    split at h
    · simp only [Option.bind_eq_some_iff, Option.some.injEq] at h; obtain ⟨_, _, h⟩ := h; exact (no h.symm rfl).elim
    · cases h
  | makeMap t r =>
    cases r with
    | some r => simp [cOp] at h
    | none =>
      simp only [cOp, Option.pure_def] at h
      split at h
      · cases h; exact (no rfl rfl).elim
      · cases h
  | makeSlice t l c =>
    simp only [cOp, Option.pure_def, Option.bind_eq_bind] at h
    split at h
    · simp only [Option.bind_eq_some_iff] at h
      obtain ⟨_, _, _, _, h⟩ := h
      split at h
      · cases h
      · simp only [Option.bind_eq_some_iff, Option.some.injEq] at h; obtain ⟨_, _, _, _, h⟩ := h; exact (no h.symm rfl).elim
    · cases h
  | slice t x lo hi mx =>
    simp only [cOp, Option.pure_def, Option.bind_eq_bind] at h
    split at h
    · cases h
    · split at h
      · simp only [Option.bind_eq_some_iff, Option.some.injEq] at h; obtain ⟨_, _, _, _, _, _, _, _, _, _, h⟩ := h; exact (no h.symm rfl).elim
      · simp only [Option.bind_eq_some_iff, Option.some.injEq] at h; obtain ⟨_, _, _, _, _, _, _, _, _, _, h⟩ := h; exact (no h.symm rfl).elim
      · cases h
  | fieldAddr t x f =>
    simp only [cOp, Option.pure_def, Option.bind_eq_bind] at h
    split at h
    · simp only [Option.bind_eq_some_iff] at h
      obtain ⟨_, _, _, _, h⟩ := h
      split at h
      · cases h
      · simp only [Option.bind_eq_some_iff, Option.some.injEq] at h; obtain ⟨_, _, h⟩ := h; exact (no h.symm rfl).elim
    · cases h
  | field t x f =>
    simp only [cOp, Option.pure_def, Option.bind_eq_bind] at h
    split at h
    · simp only [Option.bind_eq_some_iff, Option.some.injEq] at h; obtain ⟨_, _, _, _, _, _, _, _, h⟩ := h; exact (no h.symm rfl).elim
    · cases h
  | indexAddr t x i =>
    simp only [cOp, Option.pure_def, Option.bind_eq_bind] at h
    split at h
    · simp only [Option.bind_eq_some_iff, Option.some.injEq] at h; obtain ⟨_, _, _, _, _, _, h⟩ := h; exact (no h.symm rfl).elim
    · simp only [Option.bind_eq_some_iff, Option.some.injEq] at h; obtain ⟨_, _, _, _, _, _, h⟩ := h; exact (no h.symm rfl).elim
    · cases h
  | index t x i =>
    simp only [cOp, Option.pure_def, Option.bind_eq_bind] at h
    split at h
    · simp only [Option.bind_eq_some_iff, Option.some.injEq] at h; obtain ⟨_, _, _, _, _, _, _, _, h⟩ := h; exact (no h.symm rfl).elim
    · cases h
  | lookup t m k ok =>
    simp only [cOp, Option.pure_def, Option.bind_eq_bind] at h
    split at h
    · simp only [Option.bind_eq_some_iff] at h
      obtain ⟨_, _, h⟩ := h
      split at h
      · simp only [Option.bind_eq_some_iff, Option.some.injEq] at h; obtain ⟨_, _, _, _, h⟩ := h; exact (no h.symm rfl).elim
      · simp only [Option.bind_eq_some_iff, Option.some.injEq] at h; obtain ⟨_, _, _, _, _, _, h⟩ := h; exact (no h.symm rfl).elim
    · cases h
  | mapUpdate t m k v =>
    simp only [cOp, Option.pure_def, Option.bind_eq_bind] at h
    split at h
    · split at h
      · simp only [Option.bind_eq_some_iff, Option.some.injEq] at h; obtain ⟨_, _, _, _, _, _, h⟩ := h; exact (no h.symm rfl).elim
      · simp only [Option.bind_eq_some_iff, Option.some.injEq] at h; obtain ⟨_, _, _, _, _, _, _, _, h⟩ := h; exact (no h.symm rfl).elim
    · cases h
  | pick c a b =>
    simp only [cOp, Option.pure_def, Option.bind_eq_bind, Option.bind_eq_some_iff, Option.some.injEq] at h
    obtain ⟨_, _, _, _, _, _, h⟩ := h; exact (no h.symm rfl).elim
  | store t a x =>
    simp only [cOp, Option.pure_def, Option.bind_eq_bind, Option.bind_eq_some_iff, Option.some.injEq] at h
    obtain ⟨_, _, _, _, _, _, h⟩ := h; exact (no h.symm rfl).elim
  | makeFunc f a b =>
    simp only [cOp, Option.pure_def, Option.bind_eq_bind, Option.bind_eq_some_iff, Option.some.injEq] at h
    obtain ⟨_, _, _, _, h⟩ := h; exact (no h.symm rfl).elim
  | move x =>
    simp only [cOp, Option.pure_def, Option.bind_eq_bind, Option.bind_eq_some_iff, Option.some.injEq] at h
    obtain ⟨_, _, h⟩ := h; exact (no h.symm rfl).elim
  | assign x =>
    simp only [cOp, Option.pure_def, Option.bind_eq_bind, Option.bind_eq_some_iff, Option.some.injEq] at h
    obtain ⟨_, _, h⟩ := h; exact (no h.symm rfl).elim
  | alloc x =>
    simp only [cOp, Option.pure_def, Option.bind_eq_bind, Option.bind_eq_some_iff, Option.some.injEq] at h
    obtain ⟨_, _, h⟩ := h; exact (no h.symm rfl).elim
  | box t x =>
    simp only [cOp, Option.pure_def, Option.bind_eq_bind, Option.bind_eq_some_iff, Option.some.injEq] at h
    obtain ⟨_, _, h⟩ := h; split at h <;> exact (no h.symm rfl).elim
  | nilCheck x =>
    simp only [cOp, Option.pure_def, Option.bind_eq_bind, Option.bind_eq_some_iff, Option.some.injEq] at h
    obtain ⟨_, _, h⟩ := h; exact (no h.symm rfl).elim
  | unOp op t x =>
    simp only [cOp, Option.pure_def, Option.bind_eq_bind, Option.bind_eq_some_iff, Option.some.injEq] at h
    obtain ⟨_, _, h⟩ := h; exact (no h.symm rfl).elim
  | extract x i =>
    simp only [cOp, Option.pure_def, Option.bind_eq_bind, Option.bind_eq_some_iff, Option.some.injEq] at h
    obtain ⟨_, _, h⟩ := h; exact (no h.symm rfl).elim
  | _ => simp [cOp] at h

/-- One operation that is wanted. -/
theorem op_step {H : Han} (hcall : CallOk P H) (hround : RoundOk P H) (hs : Sim P ρ s w) {ops : Array Oper} {i : Nat} {o : Oper} (ho : ops[i]? = some o) (hw : Region.wanted o (yielded ops tmps) = true)
    {hint : Nat} {ao : AOp} (hc : cOp P hint o.op = some ao) (HO : ∀ x ∈ o.op.operands.toList, HOp ρ fr (evT tmps) x) {v : AVal} {s' : St} (hev : evalOp H ao fr s = some (v, s'))
    (fn : FuncId) (rest : List Nat) (k : List Item) (ds : List Deferred) (kind : CallKind) (ro : Option Nat) (cs : List Frame) :
    ∃ v' w' ρ', Steps P (lone (fr8 fn tmps (.inRegion ops (i :: rest) :: k) ds kind ro) cs w) (lone (fr8 fn (putT tmps o.dst v') (.inRegion ops rest :: k) ds kind ro) cs w') ∧ VRel ρ' v v' ∧ Sim P ρ' s' w' ∧ Fwd ρ w ρ' w' := by
  have hnd := cOp_nodefer hc
  cases hic : ao.isCall with
  | false =>
    obtain ⟨nx, v', w', ρ', h1, h2, h3, h4, h5⟩ := op_ok hs hc HO hic H hev
    exact ⟨v', w', ρ', .one (st_op ho hw hnd h1 h2), h3, h4, h5⟩
  | true =>
    have hfin : ∀ v', (fr8 fn tmps (.inRegion ops (i :: rest) :: k) ds kind ro).finish v' = fr8 fn (putT tmps o.dst v') (.inRegion ops rest :: k) ds kind ro := fun v' => by
      rw [finish_fr8, ho]; rfl
    obtain ⟨c, hop, hcase⟩ := cOp_isCall hc hic
    have hargs : ∀ x ∈ c.args.toList, HOp ρ fr (evT tmps) x := fun x hx => HO x (by rw [hop]; simp only [Op.operands, Call.operands, Array.toList_append, List.mem_append]; exact .inr hx)
    rcases hcase with ⟨f, as, hcal, hb, hlt, has, rfl⟩ | ⟨x, y, as, hcal, hy, has, rfl⟩
    · simp only [evalOp, one] at hev
      split at hev
      · rename_i e' v0 s0 hH
        cases hev
        have hmod : (f + 4096 * hint) % 4096 = f := by rw [Nat.add_mul_mod_self_left]; exact Nat.mod_eq_of_lt hlt
        obtain ⟨_, v1, hv1, hrun⟩ := hcall _ _ _ _ _ _ hH
        cases hv1
        rw [hmod] at hrun
        have hr := cOpds_rel (ρ := ρ) (fr := fr) (e := evT tmps) has hargs
        obtain ⟨v', w', ρ', h1, h2, h3, h4⟩ := hrun ρ w _ hs hr (fr8 fn tmps (.inRegion ops (i :: rest) :: k) ds kind ro) cs
        rw [hfin] at h1
        refine ⟨v', w', ρ', .head (st_enter ho hw hnd (w' := w) (f := f) (args := (c.args.toList.map (evT tmps)).toArray) ?_) h1, h2, h3, h4⟩
        obtain ⟨callee, cargs, ats⟩ := c
        simp only at hcal; subst hcal
        have := run_callFunc (P := P) (w := w) (args := cargs.map (evT tmps)) hb
        simp only [execOp, hop, resolve, Deferred.ofValue, evT, pure_bind, invoke, Array.append_empty, Array.empty_append]
        rw [this]
        congr 2
        apply Array.toList_inj.1; simp
      · cases hev
    · have hyr := HO x (by rw [hop]; simp [Op.operands, Call.operands, hcal]) y hy
      have hr := cOpds_rel (ρ := ρ) (fr := fr) (e := evT tmps) has hargs
      simp only [evalOp, callA] at hev
      split at hev
      · rename_i f first cap hfe
        split at hev
        · rename_i hlt
          simp only [one] at hev
          split at hev
          · rename_i e' v0 s0 hH
            cases hev
            have hmod : f % 4096 = f := Nat.mod_eq_of_lt hlt
            obtain ⟨hb, v1, hv1, hrun⟩ := hcall _ _ _ _ _ _ hH
            cases hv1
            rw [hmod] at hrun hb
            rw [hfe] at hyr
            simp only [VRel] at hyr
            obtain ⟨fs, cps, hxe, hfs, hcps⟩ := hyr
            obtain ⟨v', w', ρ', h1, h2, h3, h4⟩ := hrun ρ w _ hs ((hfs.append hr).append hcps) (fr8 fn tmps (.inRegion ops (i :: rest) :: k) ds kind ro) cs
            rw [hfin] at h1
            refine ⟨v', w', ρ', .head (st_enter ho hw hnd (w' := w) (f := f) (args := (fs.toList ++ c.args.toList.map (evT tmps) ++ cps.toList).toArray) ?_) h1, h2, h3, h4⟩
            obtain ⟨callee, cargs, ats⟩ := c
            simp only at hcal; subst hcal
            have := run_callFunc (P := P) (w := w) (args := fs ++ cargs.map (evT tmps) ++ cps) hb
            simp only [execOp, hop, resolve, hxe, Deferred.ofValue, pure_bind, invoke]
            rw [this]
            congr 2
            apply Array.toList_inj.1; simp
          · cases hev
        · cases hev
      · rename_i l hfe
        simp only [one] at hev
        split at hev
        · rename_i e' v0 s0 hH
          cases hev
          obtain ⟨v1, hv1, hrun⟩ := hround _ _ _ _ _ _ hH
          cases hv1
          rw [hfe] at hyr
          simp only [VRel] at hyr
          obtain ⟨R, hm, hxe⟩ := hyr
          obtain ⟨rfn, rt, ra, rb, hy1, hrun⟩ := hrun ρ w _ hs hr R hm
          obtain ⟨v', w', ρ', h1, h2, h3, h4⟩ := hrun (fr8 fn tmps (.inRegion ops (i :: rest) :: k) ds kind ro) cs
          rw [hfin] at h1
          refine ⟨v', w', ρ', .head (st_round ho hw hnd (w' := w) (l := R) (f := rfn) (args := rt) (a := ra) (b := rb) ?_) h1, h2, h3, h4⟩
          obtain ⟨callee, cargs, ats⟩ := c
          simp only at hcal; subst hcal
          have : (#[] ++ cargs.map (evT tmps)) = (cargs.toList.map (evT tmps)).toArray := by apply Array.toList_inj.1; simp
          simp only [execOp, hop, resolve, hxe, Deferred.ofValue, pure_bind, invoke]
          rw [this]; exact hy1
        · cases hev
      · cases hev
end
end Go.Proofs.Ytlhfeiacigmliaa

/- Regions: in the order of the text, and in an order that is drawn. -/
namespace Go.Proofs.Ytlhfeiacigmliaa
open Go

theorem fnEq_eq : ∀ (f g : Fn), fnEq f g = true → f = g
  | .func a, g, h => by cases g <;> simp [fnEq] at h; rw [h]
  | .method _, g, h => by simp [fnEq] at h
  | .methodOf _ _, g, h => by simp [fnEq] at h
  | .via _ _ _ _, g, h => by simp [fnEq] at h
  | .yield _, g, h => by simp [fnEq] at h

mutual
theorem AVal.beq_eq : ∀ (a b : AVal), a.beq b = true → a = b
  | .bool a, b, h => by cases b <;> simp [AVal.beq] at h; rw [h]
  | .int k n, b, h => by cases b <;> simp [AVal.beq] at h; rw [h.1, h.2]
  | .str a, b, h => by
    cases b <;> simp only [AVal.beq, Bool.false_eq_true] at h
    rw [beq_toListBytes, beq_iff_eq, ByteArray.toList_eq, ByteArray.toList_eq] at h
    rename_i b
    obtain ⟨⟨x⟩⟩ := a; obtain ⟨⟨y⟩⟩ := b
    simp at h; subst h; rfl
  | .nilp, b, h => by cases b <;> simp [AVal.beq] at h; rfl
  | .ptr x o, b, h => by cases b <;> simp [AVal.beq] at h; rw [h.1, h.2]
  | .vref cs, b, h => by cases b <;> simp only [AVal.beq, Bool.false_eq_true] at h; rw [beqs_eq _ _ h]
  | .sl0, b, h => by cases b <;> simp [AVal.beq] at h; rfl
  | .vsl cs n p, b, h => by cases b <;> simp only [AVal.beq, Bool.false_eq_true, Bool.and_eq_true, beq_iff_eq] at h; rw [beqs_eq _ _ h.1.1, h.1.2, h.2]
  | .hsl x o l c, b, h => by cases b <;> simp [AVal.beq] at h; obtain ⟨⟨⟨h1, h2⟩, h3⟩, h4⟩ := h; rw [h1, h2, h3, h4]
  | .map x, b, h => by cases b <;> simp [AVal.beq] at h; rw [h]
  | .nilm, b, h => by cases b <;> simp [AVal.beq] at h; rfl
  | .yld x, b, h => by cases b <;> simp [AVal.beq] at h; rw [h]
  | .nilf, b, h => by cases b <;> simp [AVal.beq] at h; rfl
  | .nili, b, h => by cases b <;> simp [AVal.beq] at h; rfl
  | .agg cs, b, h => by cases b <;> simp only [AVal.beq, Bool.false_eq_true] at h; rw [beqs_eq _ _ h]
  | .tup cs, b, h => by cases b <;> simp only [AVal.beq, Bool.false_eq_true] at h; rw [beqs_eq _ _ h]
  | .fn f a c, b, h => by
    cases b <;> simp only [AVal.beq, Bool.false_eq_true, Bool.and_eq_true] at h
    rw [fnEq_eq _ _ h.1.1, beqs_eq _ _ h.1.2, beqs_eq _ _ h.2]
  | .iface t v, b, h => by cases b <;> simp [AVal.beq] at h
theorem beqs_eq : ∀ (a b : List AVal), beqs a b = true → a = b
  | [], b, h => by cases b <;> simp [beqs] at h; rfl
  | a :: as, b, h => by
    cases b with
    | nil => simp [beqs] at h
    | cons b bs =>
      simp only [beqs, Bool.and_eq_true] at h
      rw [AVal.beq_eq a b h.1, beqs_eq as bs h.2]
end

section
variable {P : Program} {ρ : Rho} {s : St} {w : World} {fr : List AVal} {tmps : Array Value}

theorem VRels.put (h : VRels ρ fr tmps.toList) (dst : Option Tmp) {v : AVal} {v' : Value} (hv : VRel ρ v v') : VRels ρ (putA fr dst v) (putT tmps dst v').toList := by
  cases dst with
  | none => exact h
  | some d => simp only [putA, putT, Array.toList_setIfInBounds]; exact h.set d hv

theorem cOper_dst {hint : Nat → Nat} {ops : Array Oper} {o : Oper} : (cOper P hint ops o).dst = o.dst := by
  unfold cOper; split <;> rfl

/-- One operation of a region, wanted or not. -/
theorem instr_step {H : Han} (hcall : CallOk P H) (hround : RoundOk P H) (hs : Sim P ρ s w) {hint : Nat → Nat} {ops : Array Oper} {i : Nat} {o : Oper} (ho : ops[i]? = some o) (HT : ∀ t ∈ looks ops o, TRel ρ fr tmps t) (hbad : badG (cOper P hint ops o).guard fr = false)
    (fn : FuncId) (rest : List Nat) (k : List Item) (ds : List Deferred) (kind : CallKind) (ro : Option Nat) (cs : List Frame) :
    (wantedA (cOper P hint ops o).guard fr = true → ∀ v s', evalOp H (cOper P hint ops o).op fr s = some (v, s') →
      ∃ v' w' ρ', Steps P (lone (fr8 fn tmps (.inRegion ops (i :: rest) :: k) ds kind ro) cs w) (lone (fr8 fn (putT tmps o.dst v') (.inRegion ops rest :: k) ds kind ro) cs w') ∧ VRel ρ' v v' ∧ Sim P ρ' s' w' ∧ Fwd ρ w ρ' w') ∧
    (wantedA (cOper P hint ops o).guard fr = false → Steps P (lone (fr8 fn tmps (.inRegion ops (i :: rest) :: k) ds kind ro) cs w) (lone (fr8 fn (putT tmps o.dst undef) (.inRegion ops rest :: k) ds kind ro) cs w)) := by
  unfold cOper at hbad ⊢
  cases hg : cGuard ops o.guard with
  | none => exact ⟨fun _ v s' h => by simp [evalOp] at h, fun h => by simp [wantedA] at h⟩
  | some g =>
    simp only [hg] at hbad ⊢
    have hw := wanted_eq hg HT hbad
    refine ⟨fun h v s' hev => ?_, fun h => ?_⟩
    · rw [h] at hw
      cases hc : cOp P (hintOf hint o.dst) o.op with
      | none => rw [hc] at hev; simp [evalOp] at hev
      | some ao =>
        rw [hc] at hev
        simp only [Option.getD_some] at hev
        exact op_step hcall hround hs ho hw hc (fun x hx => hop_of fun t ht => HT t (by subst ht; simp only [looks, List.mem_append, List.mem_filterMap]; exact .inl ⟨_, hx, rfl⟩)) hev fn rest k ds kind ro cs
    · rw [h] at hw
      have := st_op_skip (P := P) (fn := fn) (tmps := tmps) (k := k) (ds := ds) (kind := kind) (ro := ro) (cs := cs) (w := w) (ops := ops) (i := i) (rest := rest) (by simp [ho, hw])
      simp only [ho, Option.bind_some] at this
      exact .one this

/-- A region in the order of the text. -/
theorem ops_run {H : Han} (hcall : CallOk P H) (hround : RoundOk P H) {hint : Nat → Nat} {ops : Array Oper} (fn : FuncId) (k : List Item) (ds : List Deferred) (kind : CallKind) (ro : Option Nat) (cs : List Frame) :
    ∀ (m i : Nat) {ρ : Rho} {s : St} {w : World} {fr fr' : List AVal} {s' : St} {tmps : Array Value}, i + m = ops.size → evalOps H ((ops.toList.drop i).map (cOper P hint ops)) fr s = some (fr', s') → Sim P ρ s w → VRels ρ fr tmps.toList →
      ∃ tmps' w' ρ', Steps P (lone (fr8 fn tmps (.inRegion ops (List.range' i m) :: k) ds kind ro) cs w) (lone (fr8 fn tmps' (.inRegion ops [] :: k) ds kind ro) cs w') ∧ VRels ρ' fr' tmps'.toList ∧ Sim P ρ' s' w' ∧ Fwd ρ w ρ' w'
  | 0, i, ρ, s, w, fr, fr', s', tmps, hi, hev, hs, hv => by
    rw [List.drop_eq_nil_of_le (by simp; omega)] at hev
    simp only [List.map_nil, evalOps, Option.some.injEq, Prod.mk.injEq] at hev
    obtain ⟨rfl, rfl⟩ := hev
    exact ⟨tmps, w, ρ, .refl _ _, hv, hs, Fwd.refl ρ w⟩
  | m + 1, i, ρ, s, w, fr, fr', s', tmps, hi, hev, hs, hv => by
    have hlt : i < ops.size := by omega
    have ho : ops[i]? = some ops[i] := Array.getElem?_eq_getElem hlt
    have hd : ops.toList.drop i = ops[i] :: ops.toList.drop (i + 1) := by
      rw [List.drop_eq_getElem_cons (by simpa using hlt)]; simp
    rw [hd] at hev
    simp only [List.map_cons, evalOps] at hev
    split at hev
    · cases hev
    rename_i hbad
    obtain ⟨h1, h2⟩ := instr_step (H := H) (hint := hint) hcall hround hs ho (fun t _ => hv.trel t) (by simpa using hbad) fn (List.range' (i + 1) m) k ds kind ro cs
    split at hev
    · rename_i hw
      split at hev
      · rename_i v s1 hop
        obtain ⟨v', w1, ρ1, g1, g2, g3, g4⟩ := h1 hw v s1 hop
        rw [cOper_dst] at hev
        obtain ⟨tmps', w', ρ', g5, g6, g7, g8⟩ := ops_run hcall hround fn k ds kind ro cs m (i + 1) (by omega) hev g3 ((VRels.mono g4.le _ _ hv).put ops[i].dst g2)
        exact ⟨tmps', w', ρ', by rw [List.range'_succ]; exact g1.trans g5, g6, g7, g4.trans g8⟩
      · cases hev
    · rename_i hw
      have hw' : wantedA (cOper P hint ops ops[i]).guard fr = false := by simpa using hw
      rw [cOper_dst] at hev
      obtain ⟨tmps', w', ρ', g5, g6, g7, g8⟩ := ops_run hcall hround fn k ds kind ro cs m (i + 1) (by omega) hev hs (hv.put ops[i].dst (undef_rel ρ))
      exact ⟨tmps', w', ρ', by rw [List.range'_succ]; exact (h2 hw').trans g5, g6, g7, g8⟩
end

def isLoad : AOp → Bool
  | .load1 _ | .loadn .. => true
  | _ => false

theorem light_of {H : Han} {op : AOp} {fr : List AVal} {s s' : St} {v : AVal} (r : Option AVal) (hr : ∀ s, evalOp H op fr s = r.map fun v => (v, s)) (h : evalOp H op fr s = some (v, s')) :
    s' = s ∧ (isLoad op = false → ∀ s2, evalOp H op fr s2 = some (v, s2)) := by
  rw [hr] at h
  simp only [Option.map_eq_some_iff, Prod.mk.injEq] at h
  obtain ⟨u, h1, h2, h3⟩ := h
  subst h2
  exact ⟨h3.symm, fun _ s2 => by rw [hr, h1]; rfl⟩

theorem light_state {H : Han} {op : AOp} {fr : List AVal} {s s' : St} {v : AVal} (hh : heavyA op = false) (h : evalOp H op fr s = some (v, s')) : s' = s ∧ (isLoad op = false → ∀ s2, evalOp H op fr s2 = some (v, s2)) := by
  cases op with
  | load1 a => simp only [evalOp, Option.map_eq_some_iff, Prod.mk.injEq] at h; obtain ⟨_, _, _, rfl⟩ := h; exact ⟨rfl, fun h => by simp [isLoad] at h⟩
  | loadn n a => simp only [evalOp, Option.map_eq_some_iff, Prod.mk.injEq] at h; obtain ⟨_, _, _, rfl⟩ := h; exact ⟨rfl, fun h => by simp [isLoad] at h⟩
  | move x => exact light_of (some (x.eval fr)) (fun s => rfl) h
  | lenArr n x => exact light_of (some (.int .i64 n)) (fun s => rfl) h
  | pick c a b => exact light_of (match c.eval fr with | .bool t => some (if t then a.eval fr else b.eval fr) | _ => none) (fun s => by simp only [evalOp]; cases c.eval fr <;> rfl) h
  | boxI x => exact light_of (if (x.eval fr).isTup then none else some (.vref (x.eval fr).cells)) (fun s => by simp only [evalOp]; cases (x.eval fr).isTup <;> rfl) h
  | build z ps => exact light_of ((fillA z (ps.map fun (a, b, x) => (a, b, x.eval fr))).map .agg) (fun s => by simp only [evalOp, Option.map_map]; rfl) h
  | buildSl z n ps => exact light_of ((fillA z (ps.map fun (a, b, x) => (a, b, x.eval fr))).map fun cs => .vsl cs n .full) (fun s => by simp only [evalOp, Option.map_map]; rfl) h
  | nilCheck x => exact light_of (match x.eval fr with | .nilp | .nilf | .nili | .tup _ => none | .fn (.method _) _ _ => none | v => some v) (fun s => by simp only [evalOp]; cases x.eval fr with | fn f a b => cases f <;> rfl | _ => rfl) h
  | bin op x y => exact light_of (binA op (x.eval fr) (y.eval fr)) (fun s => rfl) h
  | eqagg neg ks x y => exact light_of (match x.eval fr, y.eval fr with | .agg xs, .agg ys => (eqCells ks xs ys).map fun b => .bool (b != neg) | _, _ => none) (fun s => by simp only [evalOp]; cases x.eval fr <;> cases y.eval fr <;> simp [Function.comp_def]) h
  | eqb neg x y => exact light_of (match x.eval fr, y.eval fr with | .bool a, .bool b => some (.bool ((a == b) != neg)) | _, _ => none) (fun s => by simp only [evalOp]; cases x.eval fr <;> cases y.eval fr <;> rfl) h
  | eqnil kd neg x y => exact light_of ((eqNilA kd (x.eval fr) (y.eval fr)).map fun b => .bool (b != neg)) (fun s => by simp only [evalOp, Option.map_map]; rfl) h
  | un op x => exact light_of (unA op (x.eval fr)) (fun s => rfl) h
  | conv k x => exact light_of (match x.eval fr with | .int _ n => some (.int k (wr k n)) | _ => none) (fun s => by simp only [evalOp]; cases x.eval fr <;> rfl) h
  | mkFn f a b => exact light_of (match f with | .func f => some (.fn (.func f) (evals a fr) (evals b fr)) | _ => none) (fun s => by simp only [evalOp]; cases f <;> rfl) h
  | slice sz x lo hi mx => exact light_of (sliceA fr sz (x.eval fr) lo hi mx) (fun s => rfl) h
  | sliceArr n sz x lo hi mx => exact light_of (sliceArrA fr n sz (x.eval fr) lo hi mx) (fun s => rfl) h
  | fieldAddr off x => exact light_of (match x.eval fr with | .ptr b o => some (.ptr b (o + off)) | .vref cs => some (.vref (cs.drop off)) | _ => none) (fun s => by simp only [evalOp]; cases x.eval fr <;> rfl) h
  | field g off n x => exact light_of (match x.eval fr with | .agg cs => partA g cs off n | _ => none) (fun s => by simp only [evalOp]; cases x.eval fr <;> rfl) h
  | indexArr n sz x i => exact light_of (match x.eval fr, idxA (i.eval fr) n with | .ptr b o, some k => some (.ptr b (o + k * sz)) | .vref cs, some k => some (.vref (cs.drop (k * sz))) | _, _ => none) (fun s => by simp only [evalOp]; cases x.eval fr <;> cases idxA (i.eval fr) n <;> rfl) h
  | indexSl sz x i => exact light_of (match x.eval fr with | .vsl cs len _ => (idxA (i.eval fr) len).map fun k => .vref (cs.drop (k * sz)) | .hsl b o len _ => (idxA (i.eval fr) len).map fun k => .ptr b (o + k * sz) | _ => none) (fun s => by simp only [evalOp]; cases x.eval fr <;> simp [Function.comp_def]) h
  | index n g sz x i => exact light_of (match x.eval fr, idxA (i.eval fr) n with | .agg cs, some k => partA g cs (k * sz) sz | _, _ => none) (fun s => by simp only [evalOp]; cases x.eval fr <;> cases idxA (i.eval fr) n <;> rfl) h
  | extract x i => exact light_of (match x.eval fr with | .tup vs => (match vs[i]? with | some v => (if v.isTup then none else some v) | none => none) | _ => none) (fun s => by simp only [evalOp]; cases x.eval fr with | tup vs => (simp only; cases vs[i]? with | none => rfl | some v => (simp only; split <;> rfl)) | _ => rfl) h
  | len x => exact light_of (match x.eval fr with | .sl0 => some (.int .i64 0) | .vsl _ len _ => some (.int .i64 len) | .hsl _ _ len _ => some (.int .i64 len) | _ => none) (fun s => by simp only [evalOp]; cases x.eval fr <;> rfl) h
  | maxmin b as => exact light_of (match evals as fr with | [] => none | v :: vs => vs.foldlM (maxmin2 b) v) (fun s => by simp only [evalOp]; cases evals as fr <;> rfl) h
  | stuck => simp [evalOp] at h
  | _ => simp [heavyA] at hh
end Go.Proofs.Ytlhfeiacigmliaa

/- A region that draws its order: every order gives what the order of the text gives. -/
namespace Go.Proofs.Ytlhfeiacigmliaa
open Go

def hcnt (l : List (AInstr × Nat × Nat)) (i : Nat) : Nat := countTrue ((l.take i).map fun x => heavyA x.1.op)

theorem hcnt_zero (l : List (AInstr × Nat × Nat)) : hcnt l 0 = 0 := rfl
theorem hcnt_cons (x : AInstr × Nat × Nat) (l : List (AInstr × Nat × Nat)) (i : Nat) : hcnt (x :: l) (i + 1) = (if heavyA x.1.op then 1 else 0) + hcnt l i := by
  simp only [hcnt, List.take_succ_cons, List.map_cons, countTrue, List.filter_cons, id]
  split
  · simp; omega
  · simp

/-- What one operation of the text's order did. -/
def Did (H : Han) (L : List St) (x : AInstr × Nat × Nat) (T : List AVal) (S : St) (v : AVal) (T' : List AVal) (S' : St) : Prop :=
  (wantedA x.1.guard T = true ∧ evalOp H x.1.op T S = some (v, S') ∧ T' = putA T x.1.dst v ∧
    (x.2.1 < x.2.2 → (∀ a, x.1.op = .load1 a → Chk.ok ⟨a.eval T, none, v, x.2.1, x.2.2⟩ L = true) ∧ (∀ n a, x.1.op = .loadn n a → Chk.ok ⟨a.eval T, some n, v, x.2.1, x.2.2⟩ L = true))) ∨
  (wantedA x.1.guard T = false ∧ S' = S ∧ v = undefA ∧ T' = putA T x.1.dst undefA ∧ badG x.1.guard T = false)

theorem evalD_trace {H : Han} : ∀ (l : List (AInstr × Nat × Nat)) (fr : List AVal) (s : St) (states : List St) (chks : List Chk) (fr' : List AVal) (s' : St), evalD H l fr s states chks = some (fr', s') → states.getLast? = some s →
    ∃ (T : Nat → List AVal) (S : Nat → St) (v : Nat → AVal) (L : List St), T 0 = fr ∧ S 0 = s ∧ T l.length = fr' ∧ S l.length = s' ∧ (∃ ext, L = states ++ ext) ∧
      (∀ i, i ≤ l.length → L[states.length - 1 + hcnt l i]? = some (S i)) ∧ (∀ c ∈ chks, c.ok L = true) ∧ ∀ i x, l[i]? = some x → Did H L x (T i) (S i) (v i) (T (i + 1)) (S (i + 1))
  | [], fr, s, states, chks, fr', s', h, hl => by
    simp only [evalD] at h
    split at h
    · rename_i hc
      cases h
      refine ⟨fun _ => fr, fun _ => s, fun _ => undefA, states, rfl, rfl, rfl, rfl, ⟨[], by simp⟩, fun i hi => ?_, by simpa using hc, fun i x hx => by simp at hx⟩
      have : hcnt [] i = 0 := by simp [hcnt, countTrue]
      rw [this, Nat.add_zero, ← List.getLast?_eq_getElem?]; exact hl
    · cases h
  | x :: l, fr, s, states, chks, fr', s', h, hl => by
    obtain ⟨ins, lo, hi⟩ := x
    have hne : 0 < states.length := by
      cases states with
      | nil => simp at hl
      | cons a b => simp
    -- the tail's record, joined to the head's
    have join : ∀ (fr1 : List AVal) (s1 : St) (states1 : List St) (chks1 : List Chk) (v0 : AVal), evalD H l fr1 s1 states1 chks1 = some (fr', s') → states1 = (if heavyA ins.op then states ++ [s1] else states) → (heavyA ins.op = false → s1 = s) →
        (∀ c ∈ chks, c ∈ chks1) → (∀ L, (∀ c ∈ chks1, c.ok L = true) → Did H L (ins, lo, hi) fr s v0 fr1 s1) →
        ∃ (T : Nat → List AVal) (S : Nat → St) (v : Nat → AVal) (L : List St), T 0 = fr ∧ S 0 = s ∧ T ((ins, lo, hi) :: l).length = fr' ∧ S ((ins, lo, hi) :: l).length = s' ∧ (∃ ext, L = states ++ ext) ∧
          (∀ i, i ≤ ((ins, lo, hi) :: l).length → L[states.length - 1 + hcnt ((ins, lo, hi) :: l) i]? = some (S i)) ∧ (∀ c ∈ chks, c.ok L = true) ∧ ∀ i x, ((ins, lo, hi) :: l)[i]? = some x → Did H L x (T i) (S i) (v i) (T (i + 1)) (S (i + 1)) := by
      intro fr1 s1 states1 chks1 v0 h1 hst hlight hsub hdid
      have hl1 : states1.getLast? = some s1 := by
        rw [hst]
        split
        · simp
        · rename_i hh; rw [hlight (by simpa using hh)]; exact hl
      obtain ⟨T, S, v, L, g1, g2, g3, g4, ⟨ext, g5⟩, g6, g7, g8⟩ := evalD_trace l fr1 s1 states1 chks1 fr' s' h1 hl1
      have hext : ∃ ext, L = states ++ ext := by
        rw [g5, hst]
        split
        · exact ⟨[s1] ++ ext, by simp⟩
        · exact ⟨ext, rfl⟩
      refine ⟨fun i => match i with | 0 => fr | i + 1 => T i, fun i => match i with | 0 => s | i + 1 => S i, fun i => match i with | 0 => v0 | i + 1 => v i, L, rfl, rfl, by simpa using g3, by simpa using g4, hext, fun i hi => ?_, fun c hc => g7 c (hsub c hc), fun i y hy => ?_⟩
      · cases i with
        | zero =>
          obtain ⟨ext', he⟩ := hext
          rw [hcnt_zero, Nat.add_zero, he, List.getElem?_append_left (by omega), ← List.getLast?_eq_getElem?]
          exact hl
        | succ i =>
          have := g6 i (by simpa using hi)
          rw [hcnt_cons]
          have hlen : states1.length = states.length + (if heavyA ins.op then 1 else 0) := by rw [hst]; split <;> simp
          rw [hlen] at this
          rw [← this]
          congr 1
          dsimp only
          generalize (if heavyA ins.op = true then 1 else 0) = q
          omega
      · cases i with
        | zero =>
          simp only [List.getElem?_cons_zero, Option.some.injEq] at hy
          subst hy
          simp only [g1, g2]
          exact hdid L g7
        | succ i => exact g8 i y (by simpa using hy)
    simp only [evalD] at h
    split at h
    · cases h
    rename_i hbad
    split at h
    · rename_i hw
      split at h
      · rename_i v0 s1 hop
        refine join _ _ _ _ v0 h rfl (fun hh => (light_state hh hop).1) ?_ ?_
        · intro c hc
          split <;> first | exact hc | (split <;> first | exact List.mem_cons_of_mem _ hc | exact hc)
        · intro L hL
          refine .inl ⟨hw, hop, rfl, fun hlt => ⟨fun a ha => hL _ ?_, fun n a ha => hL _ ?_⟩⟩
          · simp only at ha hlt
            rw [ha]; simp only [hlt, if_true]; exact List.mem_cons_self
          · simp only at ha hlt
            rw [ha]; simp only [hlt, if_true]; exact List.mem_cons_self
      · cases h
    · rename_i hw
      have hw' : wantedA ins.guard fr = false := by simpa using hw
      refine join _ _ _ _ undefA h rfl (fun _ => rfl) (fun c hc => hc) fun L _ => .inr ⟨hw', rfl, rfl, rfl, by simpa using hbad⟩

/-- What is closed under what must have been done before. -/
def Closed (ops : List Oper) (D : Nat → Prop) : Prop := ∀ j o, ops[j]? = some o → D j → ∀ e ∈ o.after, Region.binds .any e = true → D e.on

def GoodCl (ops : List Oper) (acc : List Nat) : Prop := ∀ j i, (acc.getD j 0).testBit i = true → ∃ o, ops[j]? = some o ∧ ∀ D, Closed ops D → (∀ e ∈ o.after, Region.binds .any e = true → D e.on) → D i

theorem fold_bits (acc : List Nat) (i : Nat) : ∀ (es : List Edge) (b : Nat), (es.foldl (fun s e => if Region.binds .any e then s ||| 2 ^ e.on ||| acc.getD e.on 0 else s) b).testBit i = true →
    b.testBit i = true ∨ ∃ e ∈ es, Region.binds .any e = true ∧ (e.on = i ∨ (acc.getD e.on 0).testBit i = true)
  | [], b, h => .inl h
  | e :: es, b, h => by
    simp only [List.foldl_cons] at h
    rcases fold_bits acc i es _ h with h1 | ⟨e', he', h1⟩
    · split at h1
      · rename_i hb
        simp only [Nat.testBit_or, Bool.or_eq_true, Nat.testBit_two_pow] at h1
        rcases h1 with (h1 | h1) | h1
        · exact .inl h1
        · exact .inr ⟨e, by simp, hb, .inl (by simpa using h1)⟩
        · exact .inr ⟨e, by simp, hb, .inr h1⟩
      · exact .inl h1
    · exact .inr ⟨e', by simp [he'], h1⟩

theorem closure_good (all : List Oper) : ∀ (l pre : List Oper) (acc : List Nat), all = pre ++ l → acc.length = pre.length → GoodCl all acc → GoodCl all (closure l acc)
  | [], pre, acc, _, _, h => h
  | o :: l, pre, acc, ha, hl, h => by
    simp only [closure]
    refine closure_good all l (pre ++ [o]) _ (by simp [ha]) (by simp [hl]) ?_
    intro j i hb
    rw [List.getD_eq_getElem?_getD] at hb
    rcases Nat.lt_trichotomy j acc.length with hj | hj | hj
    · rw [List.getElem?_append_left hj, ← List.getD_eq_getElem?_getD] at hb; exact h j i hb
    · subst hj
      rw [List.getElem?_append_right (Nat.le_refl _)] at hb
      simp only [Nat.sub_self, List.getElem?_cons_zero, Option.getD_some] at hb
      rw [← Array.foldl_toList] at hb
      have ho : all[acc.length]? = some o := by rw [ha, hl, List.getElem?_append_right (Nat.le_refl _)]; simp
      refine ⟨o, ho, fun D hD hp => ?_⟩
      rcases fold_bits acc i _ _ hb with h1 | ⟨e, he, h1, h2⟩
      · simp at h1
      · have hDe := hp e (by simpa using he) h1
        rcases h2 with rfl | h2
        · exact hDe
        · obtain ⟨o', ho', hq⟩ := h _ _ h2
          exact hq D hD (fun e' he' hb' => hD _ o' ho' hDe e' he' hb')
    · rw [List.getElem?_eq_none (by simp; omega)] at hb; simp at hb

theorem closure_spec (ops : List Oper) : GoodCl ops (closure ops []) := closure_good ops ops [] [] rfl rfl (fun j i h => by simp at h)


theorem sum_lt : ∀ (l : List Nat) (f g : Nat → Nat), (∀ j ∈ l, g j ≤ f j) → (∃ i ∈ l, g i < f i) → (l.map g).sum < (l.map f).sum
  | [], f, g, _, h => by obtain ⟨i, hi, _⟩ := h; simp at hi
  | a :: l, f, g, h, h' => by
    simp only [List.map_cons, List.sum_cons]
    obtain ⟨i, hi, hlt⟩ := h'
    have h0 := h a (by simp)
    have hle : (l.map g).sum ≤ (l.map f).sum := by
      clear hi hlt
      induction l with
      | nil => simp
      | cons b l ih =>
        simp only [List.map_cons, List.sum_cons]
        have h1 := h b (by simp)
        have := ih (fun j hj => h j (by simp at hj ⊢; rcases hj with h | h <;> simp [h]))
        omega
    rcases List.mem_cons.1 hi with rfl | hi
    · omega
    · have := sum_lt l f g (fun j hj => h j (by simp [hj])) ⟨i, hi, hlt⟩
      omega

def unl (n : Nat) (listed : Array Bool) : Nat := ((List.range n).map fun i => if listed.getD i true then 0 else 1).sum

theorem getD_set (listed : Array Bool) (i j : Nat) (hi : i < listed.size) (d : Bool) : (listed.setIfInBounds i true).getD j d = if j = i then true else listed.getD j d := by
  rw [Array.getD_eq_getD_getElem?, Array.getD_eq_getD_getElem?, Array.getElem?_setIfInBounds]
  by_cases h : i = j
  · subst h; simp [hi]
  · simp [h, Ne.symm h]

theorem unl_set {n : Nat} {listed : Array Bool} {i : Nat} (hn : listed.size = n) (hi : i < n) (hl : listed.getD i true = false) : unl n (listed.setIfInBounds i true) < unl n listed := by
  unfold unl
  refine sum_lt _ _ _ (fun j _ => ?_) ⟨i, List.mem_range.2 hi, ?_⟩
  · rw [getD_set _ _ _ (by omega)]
    by_cases h : j = i
    · simp [h]
    · simp [h]
  · rw [getD_set _ _ _ (by omega)]; simp [hl]

theorem sum_zero : ∀ (l : List Nat), l.sum = 0 → ∀ x ∈ l, x = 0
  | [], _, x, hx => by simp at hx
  | a :: l, h, x, hx => by
    simp only [List.sum_cons] at h
    rcases List.mem_cons.1 hx with rfl | hx
    · omega
    · exact sum_zero l (by omega) x hx
theorem unl_zero {n : Nat} {listed : Array Bool} (h : unl n listed = 0) : ∀ i, i < n → listed.getD i true = true := by
  intro i hi
  have := sum_zero _ h (if listed.getD i true then 0 else 1) (List.mem_map.2 ⟨i, List.mem_range.2 hi, rfl⟩)
  split at this
  · assumption
  · omega

theorem countTrue_mono : ∀ (l : List Nat) (f g : Nat → Bool), (∀ k ∈ l, f k = true → g k = true) → countTrue (l.map f) ≤ countTrue (l.map g)
  | [], f, g, _ => by simp [countTrue]
  | a :: l, f, g, h => by
    have ih := countTrue_mono l f g fun k hk => h k (by simp [hk])
    have h0 := h a (by simp)
    simp only [List.map_cons, countTrue, List.filter_cons, id] at ih ⊢
    cases hf : f a <;> cases hg : g a <;> simp_all <;> omega

theorem mem_getElem {α : Type} {l : List α} {i : Nat} {x : α} (h : l[i]? = some x) : x ∈ l := List.mem_of_getElem? h


theorem countTrue_lt (f : Nat → Bool) (q n : Nat) (h : q ≤ n) : countTrue ((List.range q).map f) = countTrue ((List.range n).map fun k => f k && decide (k < q)) := by
  obtain ⟨m, rfl⟩ := Nat.exists_eq_add_of_le h
  rw [List.range_add, List.map_append]
  simp only [countTrue, List.filter_append, List.length_append]
  have h1 : (List.map (fun k => f k && decide (k < q)) (List.range q)) = (List.range q).map f := by
    apply List.map_congr_left
    intro k hk
    simp [List.mem_range.1 hk]
  have h2 : List.filter id (List.map (fun k => f k && decide (k < q)) (List.map (fun x => q + x) (List.range m))) = [] := by
    rw [List.filter_eq_nil_iff]
    intro b hb
    simp only [List.mem_map] at hb
    obtain ⟨k, ⟨x, _, rfl⟩, rfl⟩ := hb
    simp
  rw [h1, h2]; simp

section
variable {P : Program} {hint : Nat → Nat} {ops : Array Oper}

/-- The static facts of a region that may draw its order. -/
structure DrawFacts (P : Program) (hint : Nat → Nat) (ops : Array Oper) (al : Nat → Bool) : Prop where
  edges : ∀ j o, ops[j]? = some o → ∀ e ∈ o.after, Region.binds .any e = true → e.on < j
  pairs : ∀ (i j : Nat) (oi oj : Oper), i < j → ops[i]? = some oi → ops[j]? = some oj → ((closure ops.toList []).getD j 0).testBit i = true ∨
    ((¬ (heavyA (cOper P hint ops oi).op = true ∧ heavyA (cOper P hint ops oj).op = true) ∨ (al i = true ∧ al j = true)) ∧ (∀ d, oi.dst = some d → d ∉ namesOf ops oj) ∧ (∀ d, oj.dst = some d → d ∉ namesOf ops oi))

theorem drawFacts (h : drawOk ops.toList (ops.toList.map (namesOf ops)) ((ops.toList.map (cOper P hint ops)).map (heavyA ·.op)) (closure ops.toList []) = true) : DrawFacts P hint ops (fun _ => false) := by
  unfold drawOk at h
  simp only [Bool.and_eq_true, List.all_eq_true, List.mem_range, Bool.or_eq_true, Bool.not_eq_true'] at h
  obtain ⟨h1, h2⟩ := h
  refine ⟨fun j o ho e he hb => ?_, fun i j oi oj hij hi hj => ?_⟩
  · have hm : (o, j) ∈ ops.toList.zipIdx := by
      rw [List.mem_zipIdx_iff_getElem?]; simpa using ho
    have := h1 (o, j) hm
    simp only [Array.all_eq_true_iff_forall_mem, Bool.or_eq_true, Bool.not_eq_true', decide_eq_true_eq] at this
    rcases this e he with h3 | h3
    · rw [hb] at h3; cases h3
    · exact h3
  · have hjn : j < ops.toList.length := by
      have := (Array.getElem?_eq_some_iff.1 hj).1; simpa using this
    have gi : ops.toList[i]? = some oi := by simpa using hi
    have gj : ops.toList[j]? = some oj := by simpa using hj
    rcases h2 j hjn i hij with h3 | ⟨⟨h3, h4⟩, h5⟩
    · exact .inl h3
    · refine .inr ⟨.inl ?_, ?_, ?_⟩
      · rintro ⟨h6, h7⟩
        simp only [List.map_map, List.getD_eq_getElem?_getD, List.getElem?_map, gi, gj, Option.map_some, Option.getD_some, Function.comp, h6, h7, Bool.and_self] at h3
        cases h3
      · intro d hd hm
        simp only [List.getD_eq_getElem?_getD, List.getElem?_map, gi, gj, Option.map_some, Option.getD_some, hd] at h4
        simp at h4; exact h4 hm
      · intro d hd hm
        simp only [List.getD_eq_getElem?_getD, List.getElem?_map, gi, gj, Option.map_some, Option.getD_some, hd] at h5
        simp at h5; exact h5 hm

theorem bit_lt {al : Nat → Bool} (F : DrawFacts P hint ops al) {i j : Nat} (h : ((closure ops.toList []).getD j 0).testBit i = true) : i < j := by
  obtain ⟨o, ho, hq⟩ := closure_spec ops.toList j i h
  have ho' : ops[j]? = some o := by simpa using ho
  refine hq (· < j) (fun k o' ho'' hk e he hb => ?_) fun e he hb => F.edges j o ho' e he hb
  have := F.edges k o' (by simpa using ho'') e he hb
  simp only at hk ⊢; omega

theorem looks_names {o : Oper} {t : Tmp} (h : t ∈ looks ops o) : t ∈ namesOf ops o := by
  simp only [looks, namesOf, List.mem_append] at h ⊢
  rcases h with h | h
  · exact .inl (.inr h)
  · exact .inr h

/-- The record of the text's order, for the operations of a region. -/
structure Rec (P : Program) (hint : Nat → Nat) (ops : Array Oper) (H : Han) (T : Nat → List AVal) (S : Nat → St) (v : Nat → AVal) (L : List St) : Prop where
  did : ∀ i o, ops[i]? = some o → Did H L (cOper P hint ops o,
    countTrue ((List.range ops.size).map fun k => (((ops.toList.map (cOper P hint ops)).map (heavyA ·.op)).getD k false) && ((closure ops.toList []).getD i 0).testBit k),
    countTrue ((List.range ops.size).map fun k => (((ops.toList.map (cOper P hint ops)).map (heavyA ·.op)).getD k false) && (!((closure ops.toList []).getD k 0).testBit i && k != i))) (T i) (S i) (v i) (T (i + 1)) (S (i + 1))
  at_ : ∀ q, q ≤ ops.size → L[countTrue ((List.range q).map fun k => ((ops.toList.map (cOper P hint ops)).map (heavyA ·.op)).getD k false)]? = some (S q)

structure DInv (P : Program) (hint : Nat → Nat) (ops : Array Oper) (T : Nat → List AVal) (S : Nat → St) (listed : Array Bool) (τ : Array Value) (ρ : Rho) (w : World) (q : Nat) : Prop where
  size : listed.size = ops.size
  closed : Closed ops.toList (fun i => listed.getD i false = true)
  hq : ∀ i o, ops[i]? = some o → heavyA (cOper P hint ops o).op = true → (listed.getD i false = true ↔ i < q)
  qn : q ≤ ops.size
  sim : Sim P ρ (S q) w
  tm : ∀ t k, k ≤ ops.size → (∀ i o, ops[i]? = some o → o.dst = some t → (i < k ↔ listed.getD i false = true)) → TRel ρ (T k) τ t

theorem S_light {H : Han} {T : Nat → List AVal} {S : Nat → St} {v : Nat → AVal} {L : List St} (R : Rec P hint ops H T S v L) : ∀ (m q : Nat), q + m ≤ ops.size → (∀ k o, q ≤ k → k < q + m → ops[k]? = some o → heavyA (cOper P hint ops o).op = false) → S (q + m) = S q
  | 0, q, _, _ => rfl
  | m + 1, q, hn, h => by
    have ih := S_light R m q (by omega) (fun k o h1 h2 ho => h k o h1 (by omega) ho)
    rw [← ih]
    have hlt : q + m < ops.size := by omega
    have ho : ops[q + m]? = some ops[q + m] := Array.getElem?_eq_getElem hlt
    have hl := h (q + m) _ (by omega) (by omega) ho
    rcases R.did (q + m) _ ho with ⟨_, h1, _⟩ | ⟨_, h1, _⟩
    · exact (light_state hl h1).1
    · exact h1

theorem closed_bit {D : Nat → Prop} (hD : Closed ops.toList D) {j i : Nat} (h : ((closure ops.toList []).getD j 0).testBit i = true) (hj : D j) : D i := by
  obtain ⟨o, ho, hq⟩ := closure_spec ops.toList j i h
  exact hq D hD (hD j o ho hj)
theorem ready_bit {D : Nat → Prop} (hD : Closed ops.toList D) {j i : Nat} {o : Oper} (ho : ops[j]? = some o) (h : ((closure ops.toList []).getD j 0).testBit i = true) (hp : ∀ e ∈ o.after, Region.binds .any e = true → D e.on) : D i := by
  obtain ⟨o', ho', hq⟩ := closure_spec ops.toList j i h
  rw [Array.getElem?_toList, ho] at ho'
  cases ho'
  exact hq D hD hp

/-- The value of a light operation is the same at the state that lies there when it is done. -/
theorem light_at_of {al : Nat → Bool} {H : Han} {T : Nat → List AVal} {S : Nat → St} {v : Nat → AVal} {L : List St} (F : DrawFacts P hint ops al) (R : Rec P hint ops H T S v L) {q : Nat} (hqn : q ≤ ops.size) {i : Nat} {o : Oper} (ho : ops[i]? = some o)
    (key0 : ∀ k ok, ops[k]? = some ok → heavyA (cOper P hint ops ok).op = true → (((closure ops.toList []).getD i 0).testBit k = true → k < q) ∧ (k < q → ((closure ops.toList []).getD k 0).testBit i = false ∧ (k != i) = true))
    (hl : heavyA (cOper P hint ops o).op = false) (hw : wantedA (cOper P hint ops o).guard (T i) = true) : evalOp H (cOper P hint ops o).op (T i) (S q) = some (v i, S q) := by
  have hin : i < ops.size := (Array.getElem?_eq_some_iff.1 ho).1
  rcases R.did i o ho with ⟨_, h1, _, h2⟩ | ⟨h1, _⟩
  case inr => simp only at h1; rw [hw] at h1; cases h1
  simp only at h1 h2
  obtain ⟨h3, h4⟩ := light_state hl h1
  cases hld : isLoad (cOper P hint ops o).op with
  | false => exact h4 hld (S q)
  | true =>
    -- counts
    generalize hHV : (fun k => ((ops.toList.map (cOper P hint ops)).map (heavyA ·.op)).getD k false) = hv at h2
    have hvEq : ∀ k, ((ops.toList.map (cOper P hint ops)).map (heavyA ·.op)).getD k false = hv k := fun k => by rw [← hHV]
    simp only [hvEq] at h2
    have hvk : ∀ k ok, ops[k]? = some ok → hv k = heavyA (cOper P hint ops ok).op := fun k ok hk => by
      rw [← hvEq]
      have : ops.toList[k]? = some ok := by simpa using hk
      simp only [List.map_map, List.getD_eq_getElem?_getD, List.getElem?_map, this, Option.map_some, Option.getD_some, Function.comp]
    have key : ∀ k, k < ops.size → hv k = true → (((closure ops.toList []).getD i 0).testBit k = true → k < q) ∧ (k < q → ((closure ops.toList []).getD k 0).testBit i = false ∧ (k != i) = true) := by
      intro k hk hh
      have hok : ops[k]? = some ops[k] := Array.getElem?_eq_getElem hk
      rw [hvk k _ hok] at hh
      exact key0 k _ hok hh
    have hq1 : countTrue ((List.range ops.size).map fun k => hv k && ((closure ops.toList []).getD i 0).testBit k) ≤ countTrue ((List.range q).map hv) := by
      rw [countTrue_lt hv q ops.size hqn]
      refine countTrue_mono _ _ _ fun k hk h => ?_
      simp only [Bool.and_eq_true, decide_eq_true_eq] at h ⊢
      exact ⟨h.1, (key k (List.mem_range.1 hk) h.1).1 h.2⟩
    have hq2 : countTrue ((List.range q).map hv) ≤ countTrue ((List.range ops.size).map fun k => hv k && (!((closure ops.toList []).getD k 0).testBit i && k != i)) := by
      rw [countTrue_lt hv q ops.size hqn]
      refine countTrue_mono _ _ _ fun k hk h => ?_
      simp only [Bool.and_eq_true, decide_eq_true_eq, Bool.not_eq_true'] at h ⊢
      exact ⟨h.1, (key k (List.mem_range.1 hk) h.1).2 h.2⟩
    have hi1 : countTrue ((List.range ops.size).map fun k => hv k && ((closure ops.toList []).getD i 0).testBit k) ≤ countTrue ((List.range i).map hv) := by
      rw [countTrue_lt hv i ops.size (by omega)]
      refine countTrue_mono _ _ _ fun k hk h => ?_
      simp only [Bool.and_eq_true, decide_eq_true_eq] at h ⊢
      exact ⟨h.1, bit_lt F h.2⟩
    have hi2 : countTrue ((List.range i).map hv) ≤ countTrue ((List.range ops.size).map fun k => hv k && (!((closure ops.toList []).getD k 0).testBit i && k != i)) := by
      rw [countTrue_lt hv i ops.size (by omega)]
      refine countTrue_mono _ _ _ fun k hk h => ?_
      simp only [Bool.and_eq_true, decide_eq_true_eq, Bool.not_eq_true'] at h ⊢
      refine ⟨h.1, ?_, by rw [bne_iff_ne]; omega⟩
      cases hb : ((closure ops.toList []).getD k 0).testBit i with
      | false => rfl
      | true => have := bit_lt F hb; omega
    have hLq : L[countTrue ((List.range q).map hv)]? = some (S q) := by have := R.at_ q hqn; simp only [hvEq] at this; exact this
    have hLi : L[countTrue ((List.range i).map hv)]? = some (S i) := by have := R.at_ i (by omega); simp only [hvEq] at this; exact this
    by_cases hlt : countTrue ((List.range ops.size).map fun k => hv k && ((closure ops.toList []).getD i 0).testBit k) < countTrue ((List.range ops.size).map fun k => hv k && (!((closure ops.toList []).getD k 0).testBit i && k != i))
    · obtain ⟨c1, c2⟩ := h2 hlt
      have hmem : ∀ (c : Chk), c.lo = countTrue ((List.range ops.size).map fun k => hv k && ((closure ops.toList []).getD i 0).testBit k) → c.hi = countTrue ((List.range ops.size).map fun k => hv k && (!((closure ops.toList []).getD k 0).testBit i && k != i)) → c.ok L = true → (∃ cs, c.a = .vref cs) ∨ readA (S q) c.a c.n = some c.v := by
        intro c hlo hhi hok
        unfold Chk.ok at hok
        split at hok
        · rename_i cs hcs; exact .inl ⟨cs, hcs⟩
        · right
          simp only [List.all_eq_true] at hok
          have hm : S q ∈ (L.drop c.lo).take (c.hi + 1 - c.lo) := by
            have : ((L.drop c.lo).take (c.hi + 1 - c.lo))[countTrue ((List.range q).map hv) - c.lo]? = some (S q) := by
              rw [List.getElem?_take, if_pos (by omega), List.getElem?_drop, show c.lo + (countTrue ((List.range q).map hv) - c.lo) = countTrue ((List.range q).map hv) by omega]
              exact hLq
            exact List.mem_of_getElem? this
          have := hok _ hm
          split at this
          · rename_i u hu; rw [hu, AVal.beq_eq _ _ this]
          · cases this
      cases hop : (cOper P hint ops o).op with
      | load1 a =>
        rw [hop] at h1
        have := hmem _ rfl rfl (c1 a hop)
        simp only [evalOp, Option.map_eq_some_iff, Prod.mk.injEq] at h1 ⊢
        obtain ⟨u, g1, g2, _⟩ := h1
        rcases this with ⟨cs, hcs⟩ | hrd
        · simp only at hcs; rw [hcs] at g1 ⊢
          exact ⟨u, by rw [← g1]; cases cs <;> rfl, g2, trivial⟩
        · exact ⟨_, hrd, rfl, trivial⟩
      | loadn m a =>
        rw [hop] at h1
        have := hmem _ rfl rfl (c2 m a hop)
        simp only [evalOp, Option.map_eq_some_iff, Prod.mk.injEq] at h1 ⊢
        obtain ⟨u, g1, g2, _⟩ := h1
        rcases this with ⟨cs, hcs⟩ | hrd
        · simp only at hcs; rw [hcs] at g1 ⊢
          exact ⟨u, g1, g2, trivial⟩
        · simp only [readA, Option.map_eq_some_iff] at hrd
          obtain ⟨u', g3, g4⟩ := hrd
          exact ⟨u', g3, g4, trivial⟩
      | _ => rw [hop] at hld; simp [isLoad] at hld
    · have : countTrue ((List.range q).map hv) = countTrue ((List.range i).map hv) := by omega
      rw [this, hLi] at hLq
      have hS : S i = S q := Option.some.inj hLq
      rw [← hS]
      rw [h3] at h1
      exact h1

theorem light_at {al : Nat → Bool} {H : Han} {T : Nat → List AVal} {S : Nat → St} {v : Nat → AVal} {L : List St} (F : DrawFacts P hint ops al) (R : Rec P hint ops H T S v L) {listed : Array Bool} {τ : Array Value} {ρ : Rho} {w : World} {q : Nat}
    (I : DInv P hint ops T S listed τ ρ w q) {i : Nat} {o : Oper} (ho : ops[i]? = some o) (hr : listed.getD i true = false) (hp : ∀ e ∈ o.after, Region.binds .any e = true → listed.getD e.on false = true)
    (hl : heavyA (cOper P hint ops o).op = false) (hw : wantedA (cOper P hint ops o).guard (T i) = true) : evalOp H (cOper P hint ops o).op (T i) (S q) = some (v i, S q) := by
  have hin : i < ops.size := (Array.getElem?_eq_some_iff.1 ho).1
  have hD0 : listed.getD i false = false := by
    have : i < listed.size := by rw [I.size]; exact hin
    rw [Array.getD_eq_getD_getElem?, Array.getElem?_eq_getElem this] at hr ⊢
    exact hr
  refine light_at_of F R I.qn ho (fun k ok hok hh => ?_) hl hw
  have hiff := I.hq k _ hok hh
  refine ⟨fun hb => hiff.1 (ready_bit I.closed ho hb hp), fun hlt => ?_⟩
  have hDk := hiff.2 hlt
  constructor
  · cases hb : ((closure ops.toList []).getD k 0).testBit i with
    | false => rfl
    | true => have := closed_bit I.closed hb hDk; rw [hD0] at this; cases this
  · rw [bne_iff_ne]; intro e; subst e; rw [hD0] at hDk; cases hDk

theorem TRel.mono {ρ ρ' : Rho} (h : ρ.le ρ') {fr : List AVal} {τ : Array Value} {t : Nat} (ht : TRel ρ fr τ t) : TRel ρ' fr τ t := VRel.mono h _ _ ht

theorem putT_getD (τ : Array Value) (d t : Nat) (v : Value) : (putT τ (some d) v).getD t undef = if t = d ∧ d < τ.size then v else τ.getD t undef := by
  simp only [putT, Array.getD_eq_getD_getElem?, Array.getElem?_setIfInBounds]
  by_cases h : d = t
  · subst h
    by_cases hs : d < τ.size
    · simp [hs]
    · simp [hs]
  · simp [h, Ne.symm h]
theorem putA_getD (fr : List AVal) (d t : Nat) (v : AVal) : (putA fr (some d) v).getD t undefA = if t = d ∧ d < fr.length then v else fr.getD t undefA := by
  simp only [putA, List.getD_eq_getElem?_getD, List.getElem?_set]
  by_cases h : d = t
  · subst h
    by_cases hs : d < fr.length
    · simp [hs]
    · simp [hs]
  · simp [h, Ne.symm h]
theorem putT_size (τ : Array Value) (d : Option Tmp) (v : Value) : (putT τ d v).size = τ.size := by cases d <;> simp [putT]
theorem putA_length (fr : List AVal) (d : Option Tmp) (v : AVal) : (putA fr d v).length = fr.length := by cases d <;> simp [putA]

/-- One step of the drawn order keeps the invariant. -/
theorem draw_step {al : Nat → Bool} {H : Han} (hcall : CallOk P H) (hround : RoundOk P H) {T : Nat → List AVal} {S : Nat → St} {v : Nat → AVal} {L : List St} (F : DrawFacts P hint ops al) (R : Rec P hint ops H T S v L) {listed : Array Bool} {τ : Array Value} {ρ : Rho} {w : World} {q : Nat}
    (I : DInv P hint ops T S listed τ ρ w q) (hsz : τ.size = (T 0).length) (hT : ∀ i, i ≤ ops.size → (T i).length = (T 0).length) {i : Nat} {o : Oper} (hna : al i = false) (ho : ops[i]? = some o) (hr : listed.getD i true = false) (hp : ∀ e ∈ o.after, Region.binds .any e = true → listed.getD e.on false = true)
    (fn : FuncId) (rest : List Nat) (k : List Item) (ds : List Deferred) (kind : CallKind) (ro : Option Nat) (cs : List Frame) :
    ∃ τ' w' ρ' q', Steps P (lone (fr8 fn τ (.inRegion ops (i :: rest) :: k) ds kind ro) cs w) (lone (fr8 fn τ' (.inRegion ops rest :: k) ds kind ro) cs w') ∧ DInv P hint ops T S (listed.setIfInBounds i true) τ' ρ' w' q' ∧ τ'.size = τ.size ∧ Fwd ρ w ρ' w' := by
  have hin : i < ops.size := (Array.getElem?_eq_some_iff.1 ho).1
  have hil : i < listed.size := by rw [I.size]; exact hin
  have hD0 : listed.getD i false = false := by
    rw [Array.getD_eq_getD_getElem?, Array.getElem?_eq_getElem hil] at hr ⊢
    exact hr
  -- what writes a temporary that i names
  have hnames : ∀ t, t ∈ namesOf ops o → ∀ j oj, ops[j]? = some oj → oj.dst = some t → (j < i ↔ listed.getD j false = true) := by
    intro t ht j oj hj hd
    rcases Nat.lt_trichotomy j i with hlt | heq | hgt
    · refine ⟨fun _ => ?_, fun _ => hlt⟩
      rcases F.pairs j i oj o hlt hj ho with hb | ⟨_, h2, _⟩
      · exact ready_bit I.closed ho hb hp
      · exact absurd ht (h2 t hd)
    · subst heq; simp [hD0]
    · refine ⟨fun h => by omega, fun h => ?_⟩
      rcases F.pairs i j o oj hgt ho hj with hb | ⟨_, _, h3⟩
      · have := closed_bit I.closed hb h; rw [hD0] at this; cases this
      · exact absurd ht (h3 t hd)
  have hlook : ∀ t ∈ looks ops o, TRel ρ (T i) τ t := fun t ht => I.tm t i (by omega) (hnames t (looks_names ht))
  -- the new invariant, out of the new value
  have fin : ∀ (v' : Value) (w' : World) (ρ' : Rho) (q' : Nat), VRel ρ' (v i) v' → T (i + 1) = putA (T i) o.dst (v i) → Fwd ρ w ρ' w' → Sim P ρ' (S q') w' → q' ≤ ops.size →
      (∀ j oj, ops[j]? = some oj → heavyA (cOper P hint ops oj).op = true → ((listed.setIfInBounds i true).getD j false = true ↔ j < q')) → DInv P hint ops T S (listed.setIfInBounds i true) (putT τ o.dst v') ρ' w' q' := by
    intro v' w' ρ' q' hv hTi hf hs hqn hq
    refine ⟨by simp [I.size], fun j oj hj hDj e he hb => ?_, hq, hqn, hs, fun t kk hk hw => ?_⟩
    · have hDj : (listed.setIfInBounds i true).getD j false = true := hDj
      show (listed.setIfInBounds i true).getD e.on false = true
      rw [getD_set _ _ _ hil] at hDj ⊢
      by_cases h1 : e.on = i
      · simp [h1]
      · rw [if_neg h1]
        by_cases h2 : j = i
        · subst h2
          rw [Array.getElem?_toList, ho] at hj; cases hj
          exact hp e he hb
        · rw [if_neg h2] at hDj
          exact I.closed j oj hj hDj e he hb
    · by_cases hd : o.dst = some t
      · -- i writes it, and is the last that did
        have hik : i < kk := (hw i o ho hd).2 (by rw [getD_set _ _ _ hil]; simp)
        have hlast : ∀ m, i + 1 ≤ m → m ≤ kk → (T m).getD t undefA = (T (i + 1)).getD t undefA := by
          intro m
          induction m with
          | zero => intro h; omega
          | succ m ih =>
            intro h1 h2
            by_cases hm : m = i
            · subst hm; rfl
            · rw [← ih (by omega) (by omega)]
              have hmn : m < ops.size := by omega
              have hom : ops[m]? = some ops[m] := Array.getElem?_eq_getElem hmn
              have hne : ops[m].dst ≠ some t := by
                intro hdm
                have h3 := (hw m _ hom hdm).1 (by omega)
                rw [getD_set _ _ _ hil, if_neg hm] at h3
                rcases F.pairs i m o _ (by omega) ho hom with hb | ⟨_, _, h5⟩
                · have := closed_bit I.closed hb h3; rw [hD0] at this; cases this
                · exact h5 t hdm (by simp only [namesOf, List.mem_append]; exact .inl (.inl (by rw [hd]; simp)))
              have hput : ∀ u, (putA (T m) (cOper P hint ops ops[m]).dst u).getD t undefA = (T m).getD t undefA := by
                intro u
                rw [cOper_dst]
                cases hdm : ops[m].dst with
                | none => rfl
                | some d =>
                  rw [putA_getD, if_neg]
                  rintro ⟨h6, _⟩
                  exact hne (by rw [hdm, h6])
              rcases R.did m _ hom with ⟨_, _, h4, _⟩ | ⟨_, _, _, h4, _⟩
              · simp only at h4; rw [h4, hput]
              · simp only at h4; rw [h4, hput]
        unfold TRel
        rw [hlast kk (by omega) (Nat.le_refl _), hTi, hd, putA_getD, putT_getD]
        have hll : (T i).length = τ.size := by rw [hT i (by omega), hsz]
        by_cases hlt : t < τ.size
        · rw [if_pos ⟨rfl, by omega⟩, if_pos ⟨rfl, hlt⟩]; exact hv
        · rw [if_neg (by omega), if_neg (by omega)]
          rw [List.getD_eq_getElem?_getD, List.getElem?_eq_none (by omega), Array.getD_eq_getD_getElem?, Array.getElem?_eq_none (by omega)]
          exact undef_rel ρ'
      · have hold : TRel ρ (T kk) τ t := I.tm t kk hk fun j oj hj hdj => by
          have := hw j oj hj hdj
          rw [getD_set _ _ _ hil] at this
          by_cases h2 : j = i
          · subst h2; rw [ho] at hj; cases hj; exact absurd hdj hd
          · rwa [if_neg h2] at this
        have : (putT τ o.dst v').getD t undef = τ.getD t undef := by
          cases hdd : o.dst with
          | none => rfl
          | some d =>
            rw [putT_getD, if_neg]
            rintro ⟨rfl, _⟩
            exact hd hdd
        unfold TRel
        rw [this]
        exact hold.mono hf.le
  have hdid := R.did i o ho
  simp only [Did] at hdid
  rcases hdid with ⟨hw, hop, hTi, _⟩ | ⟨hw, hSi, hvi, hTi, hbad⟩
  · rw [cOper_dst] at hTi
    cases hh : heavyA (cOper P hint ops o).op with
    | false =>
      have hev := light_at F R I ho hr hp hh hw
      obtain ⟨v', w', ρ', g1, g2, g3, g4⟩ := (instr_step (H := H) (hint := hint) hcall hround I.sim ho hlook (wanted_good hw) fn rest k ds kind ro cs).1 hw _ _ hev
      refine ⟨_, w', ρ', q, g1, fin v' w' ρ' q g2 hTi g4 g3 I.qn fun j oj hj hhj => ?_, putT_size _ _ _, g4⟩
      rw [getD_set _ _ _ hil]
      by_cases h2 : j = i
      · subst h2; rw [ho] at hj; cases hj; rw [hh] at hhj; cases hhj
      · rw [if_neg h2]; exact I.hq j oj hj hhj
    | true =>
      -- all heavy operations ahead of i are done, none behind it
      have hle : q ≤ i := by
        rcases Nat.lt_or_ge i q with h | h
        · have := (I.hq i o ho hh).2 h; rw [hD0] at this; cases this
        · exact h
      have hnone : ∀ m om, q ≤ m → m < i → ops[m]? = some om → heavyA (cOper P hint ops om).op = false := by
        intro m om h1 h2 hm
        cases hhm : heavyA (cOper P hint ops om).op with
        | false => rfl
        | true =>
          rcases F.pairs m i om o h2 hm ho with hb | ⟨h3, _⟩
          · have := (I.hq m om hm hhm).1 (ready_bit I.closed ho hb hp); omega
          · rcases h3 with h3 | ⟨_, h3⟩
            · exact absurd ⟨hhm, hh⟩ h3
            · rw [hna] at h3; cases h3
      have hS : S i = S q := by
        have := S_light R (i - q) q (by omega) (fun m om h1 h2 hm => hnone m om h1 (by omega) hm)
        rwa [show q + (i - q) = i by omega] at this
      rw [hS] at hop
      obtain ⟨v', w', ρ', g1, g2, g3, g4⟩ := (instr_step (H := H) (hint := hint) hcall hround I.sim ho hlook (wanted_good hw) fn rest k ds kind ro cs).1 hw _ _ hop
      refine ⟨_, w', ρ', i + 1, g1, fin v' w' ρ' (i + 1) g2 hTi g4 g3 (by omega) fun j oj hj hhj => ?_, putT_size _ _ _, g4⟩
      rw [getD_set _ _ _ hil]
      by_cases h2 : j = i
      · simp [h2]
      · rw [if_neg h2, I.hq j oj hj hhj]
        constructor
        · intro h; omega
        · intro h
          rcases Nat.lt_or_ge j q with h3 | h3
          · exact h3
          · have := hnone j oj h3 (by omega) hj; rw [hhj] at this; cases this
  · rw [cOper_dst] at hTi
    have hst := (instr_step (H := H) (hint := hint) hcall hround I.sim ho hlook hbad fn rest k ds kind ro cs).2 hw
    have hTi' : T (i + 1) = putA (T i) o.dst (v i) := by rw [hvi]; exact hTi
    have hvr : VRel ρ (v i) undef := by rw [hvi]; exact undef_rel ρ
    cases hh : heavyA (cOper P hint ops o).op with
    | false =>
      refine ⟨_, w, ρ, q, hst, fin undef w ρ q hvr hTi' (Fwd.refl ρ w) I.sim I.qn fun j oj hj hhj => ?_, putT_size _ _ _, Fwd.refl ρ w⟩
      rw [getD_set _ _ _ hil]
      by_cases h2 : j = i
      · subst h2; rw [ho] at hj; cases hj; rw [hh] at hhj; cases hhj
      · rw [if_neg h2]; exact I.hq j oj hj hhj
    | true =>
      have hle : q ≤ i := by
        rcases Nat.lt_or_ge i q with h | h
        · have := (I.hq i o ho hh).2 h; rw [hD0] at this; cases this
        · exact h
      have hnone : ∀ m om, q ≤ m → m < i → ops[m]? = some om → heavyA (cOper P hint ops om).op = false := by
        intro m om h1 h2 hm
        cases hhm : heavyA (cOper P hint ops om).op with
        | false => rfl
        | true =>
          rcases F.pairs m i om o h2 hm ho with hb | ⟨h3, _⟩
          · have := (I.hq m om hm hhm).1 (ready_bit I.closed ho hb hp); omega
          · rcases h3 with h3 | ⟨_, h3⟩
            · exact absurd ⟨hhm, hh⟩ h3
            · rw [hna] at h3; cases h3
      have hS : S i = S q := by
        have := S_light R (i - q) q (by omega) (fun m om h1 h2 hm => hnone m om h1 (by omega) hm)
        rwa [show q + (i - q) = i by omega] at this
      refine ⟨_, w, ρ, i + 1, hst, fin undef w ρ (i + 1) hvr hTi' (Fwd.refl ρ w) (by rw [hSi, hS]; exact I.sim) (by omega) fun j oj hj hhj => ?_, putT_size _ _ _, Fwd.refl ρ w⟩
      rw [getD_set _ _ _ hil]
      by_cases h2 : j = i
      · simp [h2]
      · rw [if_neg h2, I.hq j oj hj hhj]
        constructor
        · intro h; omega
        · intro h
          rcases Nat.lt_or_ge j q with h3 | h3
          · exact h3
          · have := hnone j oj h3 (by omega) hj; rw [hhj] at this; cases this

theorem draw_done {H : Han} {T : Nat → List AVal} {S : Nat → St} {v : Nat → AVal} {L : List St} (R : Rec P hint ops H T S v L) {listed : Array Bool} {τ : Array Value} {ρ : Rho} {w : World} {q : Nat}
    (I : DInv P hint ops T S listed τ ρ w q) (hsz : τ.size = (T 0).length) (hT : ∀ i, i ≤ ops.size → (T i).length = (T 0).length) (hall : ∀ i, i < ops.size → listed.getD i true = true) : VRels ρ (T ops.size) τ.toList ∧ Sim P ρ (S ops.size) w := by
  have hall' : ∀ i, i < ops.size → listed.getD i false = true := fun i hi => by
    have h1 := hall i hi
    have : i < listed.size := by rw [I.size]; exact hi
    rw [Array.getD_eq_getD_getElem?, Array.getElem?_eq_getElem this] at h1 ⊢
    exact h1
  refine ⟨VRels.of_get (by simp [hT ops.size (Nat.le_refl _), hsz]) fun i a x ha hx => ?_, ?_⟩
  · have := I.tm i ops.size (Nat.le_refl _) fun j oj hj _ => by
      have hj' := (Array.getElem?_eq_some_iff.1 hj).1
      simp [hj', hall' j hj']
    unfold TRel at this
    rw [List.getD_eq_getElem?_getD, ha, Array.getD_eq_getD_getElem?, ← Array.getElem?_toList, hx] at this
    exact this
  · have := S_light R (ops.size - q) q (by have := I.qn; omega) fun m om h1 h2 hm => by
      cases hh : heavyA (cOper P hint ops om).op with
      | false => rfl
      | true =>
        have h3 := (I.hq m om hm hh).1 (hall' m (by have := I.qn; omega))
        omega
    rw [show q + (ops.size - q) = ops.size by have := I.qn; omega] at this
    rw [this]; exact I.sim

theorem draw_run {al : Nat → Bool} {H : Han} (hcall : CallOk P H) (hround : RoundOk P H) {T : Nat → List AVal} {S : Nat → St} {v : Nat → AVal} {L : List St} (F : DrawFacts P hint ops al) (R : Rec P hint ops H T S v L)
    (hT : ∀ i, i ≤ ops.size → (T i).length = (T 0).length) (fn : FuncId) (k : List Item) (ds : List Deferred) (kind : CallKind) (ro : Option Nat) (cs : List Frame) :
    ∀ (fuel t : Nat) {listed : Array Bool} {τ : Array Value} {ρ : Rho} {w : World} {q : Nat}, unl ops.size listed ≤ fuel → DInv P hint ops T S listed τ ρ w q → τ.size = (T 0).length → (∀ i, al i = true → listed.getD i false = true) →
      ∃ τ' w' ρ', Steps P (lone (fr8 fn τ (.inRegion ops (Region.linearise.go .any ops fuel t listed []) :: k) ds kind ro) cs w) (lone (fr8 fn τ' (.inRegion ops [] :: k) ds kind ro) cs w') ∧ VRels ρ' (T ops.size) τ'.toList ∧ Sim P ρ' (S ops.size) w' ∧ Fwd ρ w ρ' w'
  | 0, t, listed, τ, ρ, w, q, hu, I, hsz, _ => by
    obtain ⟨h1, h2⟩ := draw_done R I hsz hT (unl_zero (by omega))
    exact ⟨τ, w, ρ, .refl _ _, h1, h2, Fwd.refl ρ w⟩
  | fuel + 1, t, listed, τ, ρ, w, q, hu, I, hsz, hal => by
    simp only [Region.linearise.go]
    change ∃ τ' w' ρ', Steps P (lone (fr8 fn τ (.inRegion ops (match (Region.ready .any ops listed)[t % (Region.ready .any ops listed).length]? with
      | some i => Region.linearise.go .any ops fuel (t / (Region.ready .any ops listed).length) (listed.setIfInBounds i true) [i]
      | none => [].reverse) :: k) ds kind ro) cs w) _ ∧ _
    cases hi : (Region.ready .any ops listed)[t % (Region.ready .any ops listed).length]? with
    | none =>
      have hnil : Region.ready .any ops listed = [] := by
        cases hr : Region.ready .any ops listed with
        | nil => rfl
        | cons x xs =>
          rw [hr] at hi
          have hlt : t % (x :: xs).length < (x :: xs).length := Nat.mod_lt _ (by simp)
          rw [List.getElem?_eq_getElem hlt] at hi
          cases hi
      have hall : ∀ i, i < ops.size → listed.getD i true = true := by
        intro i
        induction i using Nat.strongRecOn with
        | _ i ih =>
          intro hin
          cases hl : listed.getD i true with
          | true => rfl
          | false =>
            exfalso
            have ho : ops[i]? = some ops[i] := Array.getElem?_eq_getElem hin
            have hm : i ∈ Region.ready .any ops listed := by
              simp only [Region.ready, List.mem_filter, List.mem_range]
              refine ⟨hin, ?_⟩
              simp only [hl, Bool.not_false, Bool.true_and, ho, Option.map_some, Option.getD_some, Array.all_eq_true_iff_forall_mem, Bool.or_eq_true, Bool.not_eq_true']
              intro e he
              cases hb : Region.binds .any e with
              | false => exact .inl rfl
              | true =>
                right
                have hlt := F.edges i _ ho e he hb
                have h1 := ih e.on hlt (by omega)
                have : e.on < listed.size := by rw [I.size]; omega
                rw [Array.getD_eq_getD_getElem?, Array.getElem?_eq_getElem this] at h1 ⊢
                exact h1
            rw [hnil] at hm; simp at hm
      obtain ⟨h1, h2⟩ := draw_done R I hsz hT hall
      exact ⟨τ, w, ρ, .refl _ _, h1, h2, Fwd.refl ρ w⟩
    | some i =>
      have hm := List.mem_of_getElem? hi
      simp only [Region.ready, List.mem_filter, List.mem_range, Bool.and_eq_true, Bool.not_eq_true'] at hm
      obtain ⟨hin, hl, hp⟩ := hm
      have ho : ops[i]? = some ops[i] := Array.getElem?_eq_getElem hin
      simp only [ho, Option.map_some, Option.getD_some, Array.all_eq_true_iff_forall_mem, Bool.or_eq_true, Bool.not_eq_true'] at hp
      have hp' : ∀ e ∈ ops[i].after, Region.binds .any e = true → listed.getD e.on false = true := fun e he hb => by
        rcases hp e he with h | h
        · rw [hb] at h; cases h
        · exact h
      simp only []
      rw [linearise_go_acc, List.reverse_singleton, List.singleton_append]
      have hna : al i = false := by
        cases ha : al i with
        | false => rfl
        | true =>
          have h1 := hal i ha
          have : i < listed.size := by rw [I.size]; exact hin
          rw [Array.getD_eq_getD_getElem?, Array.getElem?_eq_getElem this] at h1 hl
          rw [Option.getD_some] at h1 hl
          rw [h1] at hl; cases hl
      have hal' : ∀ j, al j = true → (listed.setIfInBounds i true).getD j false = true := fun j hj => by
        rw [getD_set _ _ _ (by rw [I.size]; exact hin)]
        split
        · rfl
        · exact hal j hj
      obtain ⟨τ1, w1, ρ1, q1, g1, g2, g3, g4⟩ := draw_step hcall hround F R I hsz hT hna ho hl hp' fn (Region.linearise.go .any ops fuel (t / (Region.ready .any ops listed).length) (listed.setIfInBounds i true) []) k ds kind ro cs
      have hu' : unl ops.size (listed.setIfInBounds i true) ≤ fuel := by have := unl_set I.size hin hl; omega
      obtain ⟨τ', w', ρ', g5, g6, g7, g8⟩ := draw_run hcall hround F R hT fn k ds kind ro cs fuel _ hu' g2 (by rw [g3, hsz]) hal'
      exact ⟨τ', w', ρ', g1.trans g5, g6, g7, g4.trans g8⟩

/-- A region that draws its order, given how its operations run. -/
theorem dops_of {H : Han} (hm : P.follows .mixedOrders = true)
    (hrun : ∀ {T : Nat → List AVal} {S : Nat → St} {v : Nat → AVal} {L : List St}, Rec P hint ops H T S v L → (∀ i, i ≤ ops.size → (T i).length = (T 0).length) → ∀ (fn : FuncId) (k : List Item) (ds : List Deferred) (kind : CallKind) (ro : Option Nat) (cs : List Frame) (t : Nat) {listed : Array Bool} {τ : Array Value} {ρ : Rho} {w : World}, unl ops.size listed ≤ ops.size → DInv P hint ops T S listed τ ρ w 0 → τ.size = (T 0).length → (∀ i, listed.getD i false = false) →
      ∃ τ' w' ρ', Steps P (lone (fr8 fn τ (.inRegion ops (Region.linearise.go .any ops ops.size t listed []) :: k) ds kind ro) cs w) (lone (fr8 fn τ' (.inRegion ops [] :: k) ds kind ro) cs w') ∧ VRels ρ' (T ops.size) τ'.toList ∧ Sim P ρ' (S ops.size) w' ∧ Fwd ρ w ρ' w')
    {fr fr' : List AVal} {s s' : St} {ρ : Rho} {w : World} {τ : Array Value}
    (hev : evalD H ((ops.toList.map (cOper P hint ops)).zipIdx.map fun (x : AInstr × Nat) =>
        (x.1, countTrue ((List.range ops.size).map fun k => ((ops.toList.map (cOper P hint ops)).map (heavyA ·.op)).getD k false && ((closure ops.toList []).getD x.2 0).testBit k),
         countTrue ((List.range ops.size).map fun k => ((ops.toList.map (cOper P hint ops)).map (heavyA ·.op)).getD k false && (!((closure ops.toList []).getD k 0).testBit x.2 && k != x.2)))) fr s [s] [] = some (fr', s'))
    (hs : Sim P ρ s w) (hv : VRels ρ fr τ.toList) (fn : FuncId) (id : Nat) (k : List Item) (ds : List Deferred) (kind : CallKind) (ro : Option Nat) (cs : List Frame) :
    ∃ τ' w' ρ', Steps P (lone (fr8 fn τ (.code (.region id ops true) :: k) ds kind ro) cs w) (lone (fr8 fn τ' k ds kind ro) cs w') ∧ VRels ρ' fr' τ'.toList ∧ Sim P ρ' s' w' ∧ Fwd ρ w ρ' w' := by
  obtain ⟨T, S, v, L, h1, h2, h3, h4, _, h6, _, h8⟩ := evalD_trace _ _ _ _ _ _ _ hev (by simp)
  generalize hll : ((ops.toList.map (cOper P hint ops)).zipIdx.map fun (x : AInstr × Nat) =>
        (x.1, countTrue ((List.range ops.size).map fun k => ((ops.toList.map (cOper P hint ops)).map (heavyA ·.op)).getD k false && ((closure ops.toList []).getD x.2 0).testBit k),
         countTrue ((List.range ops.size).map fun k => ((ops.toList.map (cOper P hint ops)).map (heavyA ·.op)).getD k false && (!((closure ops.toList []).getD k 0).testBit x.2 && k != x.2)))) = l at *
  have hlen : l.length = ops.size := by rw [← hll]; simp
  have hget : ∀ i o, ops[i]? = some o → l[i]? = some (cOper P hint ops o,
      countTrue ((List.range ops.size).map fun k => ((ops.toList.map (cOper P hint ops)).map (heavyA ·.op)).getD k false && ((closure ops.toList []).getD i 0).testBit k),
      countTrue ((List.range ops.size).map fun k => ((ops.toList.map (cOper P hint ops)).map (heavyA ·.op)).getD k false && (!((closure ops.toList []).getD k 0).testBit i && k != i))) := by
    intro i o ho
    have ho' : ops.toList[i]? = some o := by simpa using ho
    rw [← hll]
    simp only [List.getElem?_map, List.getElem?_zipIdx, ho', Option.map_some, Nat.zero_add]
  have R : Rec P hint ops H T S v L := by
    refine ⟨fun i o ho => h8 i _ (hget i o ho), fun q hq => ?_⟩
    have := h6 q (by omega)
    simp only [List.length_cons, List.length_nil, Nat.zero_add, Nat.sub_self] at this
    rw [← this]
    congr 1
    unfold hcnt
    congr 1
    apply List.ext_getElem?
    intro i
    simp only [List.getElem?_map, List.getElem?_take]
    by_cases hi : i < q
    · have ho : ops[i]? = some ops[i] := Array.getElem?_eq_getElem (by omega)
      have ho' : ops.toList[i]? = some ops[i] := by simp
      rw [if_pos hi, List.getElem?_range hi, hget i _ ho]
      simp only [Option.map_some, List.map_map, List.getD_eq_getElem?_getD, List.getElem?_map, ho', Function.comp, Option.getD_some]
    · rw [if_neg hi, List.getElem?_eq_none (by simpa using hi)]; rfl
  have hT : ∀ i, i ≤ ops.size → (T i).length = (T 0).length := by
    intro i
    induction i with
    | zero => intro _; rfl
    | succ i ih =>
      intro hi
      have ho : ops[i]? = some ops[i] := Array.getElem?_eq_getElem (by omega)
      rcases R.did i _ ho with ⟨_, _, h, _⟩ | ⟨_, _, _, h, _⟩
      · rw [h, putA_length]; exact ih (by omega)
      · rw [h, putA_length]; exact ih (by omega)
  have hsz : τ.size = (T 0).length := by rw [h1]; have := hv.length; simpa using this
  have hrep : ∀ (j : Nat), (Array.replicate ops.size false).getD j false = false := fun j => by
    rw [Array.getD_eq_getD_getElem?]
    rcases Nat.lt_or_ge j ops.size with h | h
    · rw [Array.getElem?_eq_getElem (by simpa using h)]; simp
    · rw [Array.getElem?_eq_none (by simpa using h)]; rfl
  have I : DInv P hint ops T S (Array.replicate ops.size false) τ ρ { w with drawn := w.drawn + 1 } 0 := by
    refine ⟨by simp, fun j o _ hj => (by have hj' : (Array.replicate ops.size false).getD j false = true := hj; rw [hrep] at hj'; cases hj'), fun i o _ _ => (by simp [hrep]), Nat.zero_le _, (by rw [h2]; exact hs.of_heap rfl), fun t kk hk hw => ?_⟩
    have hfix : ∀ m, m ≤ kk → (T m).getD t undefA = (T 0).getD t undefA := by
      intro m
      induction m with
      | zero => intro _; rfl
      | succ m ih =>
        intro hm'
        rw [← ih (by omega)]
        have ho : ops[m]? = some ops[m] := Array.getElem?_eq_getElem (by omega)
        have hne : ops[m].dst ≠ some t := fun hdm => by
          have := (hw m _ ho hdm).1 (by omega)
          rw [hrep] at this; cases this
        have hput : ∀ u, (putA (T m) (cOper P hint ops ops[m]).dst u).getD t undefA = (T m).getD t undefA := by
          intro u
          rw [cOper_dst]
          cases hdm : ops[m].dst with
          | none => rfl
          | some d =>
            rw [putA_getD, if_neg]
            rintro ⟨h6, _⟩
            exact hne (by rw [hdm, h6])
        rcases R.did m _ ho with ⟨_, _, h, _⟩ | ⟨_, _, _, h, _⟩
        · simp only at h; rw [h, hput]
        · simp only at h; rw [h, hput]
    unfold TRel
    rw [hfix kk (Nat.le_refl _), h1]
    exact hv.trel t
  have hu : unl ops.size (Array.replicate ops.size false) ≤ ops.size := by
    unfold unl
    have : ∀ (l : List Nat) (f : Nat → Nat), (∀ j, f j ≤ 1) → (l.map f).sum ≤ l.length := by
      intro l f hf
      induction l with
      | nil => simp
      | cons a l ih => simp only [List.map_cons, List.sum_cons, List.length_cons]; have := hf a; omega
    have := this (List.range ops.size) (fun i => if (Array.replicate ops.size false).getD i true then 0 else 1) (fun j => by split <;> omega)
    simpa using this
  obtain ⟨τ', w', ρ', g1, g2, g3, g4⟩ := hrun R hT fn k ds kind ro cs (w.tape w.drawn (.order fn id)) hu I hsz hrep
  rw [← hlen, h3] at g2
  rw [← hlen, h4] at g3
  refine ⟨τ', w', ρ', .head st_region_draw ?_, g2, g3, (Fwd.of_heap (w := w) (w' := { w with drawn := w.drawn + 1 }) rfl).trans g4⟩
  simp only [Region.schedule, hm, Bool.true_or, if_true]
  exact g1.trans (.one st_region_end)
/-- A region that draws its order. -/
theorem dops_run {H : Han} (hcall : CallOk P H) (hround : RoundOk P H) (hm : P.follows .mixedOrders = true)
    (hd : drawOk ops.toList (ops.toList.map (namesOf ops)) ((ops.toList.map (cOper P hint ops)).map (heavyA ·.op)) (closure ops.toList []) = true)
    {fr fr' : List AVal} {s s' : St} {ρ : Rho} {w : World} {τ : Array Value}
    (hev : evalD H ((ops.toList.map (cOper P hint ops)).zipIdx.map fun (x : AInstr × Nat) =>
        (x.1, countTrue ((List.range ops.size).map fun k => ((ops.toList.map (cOper P hint ops)).map (heavyA ·.op)).getD k false && ((closure ops.toList []).getD x.2 0).testBit k),
         countTrue ((List.range ops.size).map fun k => ((ops.toList.map (cOper P hint ops)).map (heavyA ·.op)).getD k false && (!((closure ops.toList []).getD k 0).testBit x.2 && k != x.2)))) fr s [s] [] = some (fr', s'))
    (hs : Sim P ρ s w) (hv : VRels ρ fr τ.toList) (fn : FuncId) (id : Nat) (k : List Item) (ds : List Deferred) (kind : CallKind) (ro : Option Nat) (cs : List Frame) :
    ∃ τ' w' ρ', Steps P (lone (fr8 fn τ (.code (.region id ops true) :: k) ds kind ro) cs w) (lone (fr8 fn τ' k ds kind ro) cs w') ∧ VRels ρ' fr' τ'.toList ∧ Sim P ρ' s' w' ∧ Fwd ρ w ρ' w' :=
  dops_of hm (fun R hT fn k ds kind ro cs t _ _ _ _ hu I hsz _ => draw_run hcall hround (drawFacts hd) R hT fn k ds kind ro cs ops.size t hu I hsz (fun _ h => by cases h)) hev hs hv fn id k ds kind ro cs
end
end Go.Proofs.Ytlhfeiacigmliaa

/- A region that draws its order, in which allocations have no order among each other. -/
namespace Go.Proofs.Ytlhfeiacigmliaa
open Go

/-- The second state has more blocks, and is else the same. -/
def StExt (s s' : St) : Prop := ∃ l, s' = ⟨s.n + l.length, l ++ s.objs, s.pn, s.cur⟩
theorem StExt.refl (s : St) : StExt s s := ⟨[], by simp⟩
theorem StExt.push (s : St) (o : AObj) : StExt s (s.push o) := ⟨[o], rfl⟩
theorem StExt.trans {a b c : St} (h : StExt a b) (h' : StExt b c) : StExt a c := by
  obtain ⟨l, rfl⟩ := h
  obtain ⟨l', rfl⟩ := h'
  exact ⟨l' ++ l, by simp; omega⟩
theorem StExt.n {s s' : St} (h : StExt s s') : s.n ≤ s'.n := by obtain ⟨l, rfl⟩ := h; simp
theorem StExt.get {s s' : St} (h : StExt s s') {b : Nat} (hb : b < s.n) : s'.get b = s.get b := by
  obtain ⟨l, rfl⟩ := h
  simp only [St.get]
  rw [if_pos (by omega), if_pos hb, List.getElem?_append_right (by omega)]
  congr 1; omega
theorem StExt.get_some {s s' : St} (h : StExt s s') {b : Nat} {o : AObj} (hg : s.get b = some o) : s'.get b = some o := by
  rw [h.get (St.get_lt hg)]; exact hg
theorem Sim.ext {P : Program} {ρ : Rho} {s s' : St} {w : World} (hs : Sim P ρ s w) (h : StExt s s') : Sim P ρ s' w := by
  have hn := h.n
  have hg : ∀ b o, b < s.n → s'.get b = some o → s.get b = some o := fun b o hb e => by rw [← h.get hb]; exact e
  obtain ⟨l, rfl⟩ := h
  exact ⟨hs.inj, fun b R e => ⟨Nat.lt_of_lt_of_le (hs.mlt b R e).1 hn, (hs.mlt b R e).2⟩, fun b R o e g => hs.obj b R o e (hg b o (hs.mlt b R e).1 g), hs.imm, hs.free, hs.plt, hs.ver, hs.pnm, hs.room, hs.apart⟩
/-- A block that the abstract state has already, now laid. -/
theorem Sim.fill {P : Program} {ρ : Rho} {s : St} {w : World} (h : Sim P ρ s w) {b0 : Nat} {a : AObj} {o : Obj} (hg : s.get b0 = some a) (hm : ρ.m b0 = none) (ho : ORel P (ρ.bind b0 w.heap.size) a o) :
    Sim P (ρ.bind b0 w.heap.size) s (w.alloc o) where
  inj b b' R e e' := by
    simp only [Rho.bind] at e e'
    split at e <;> split at e'
    · omega
    · cases e; have := (h.mlt b' _ e').2; omega
    · cases e'; have := (h.mlt b _ e).2; omega
    · exact h.inj b b' R e e'
  mlt b R e := by
    simp only [Rho.bind] at e
    rw [size_alloc]
    split at e
    · rename_i hb; subst hb; cases e; exact ⟨St.get_lt hg, by omega⟩
    · have := h.mlt b R e; omega
  obj b R o' e g := by
    simp only [Rho.bind] at e
    split at e
    · rename_i hb
      subst hb
      rw [hg] at g; cases g; cases e
      exact ⟨o, heap_alloc_new w o, ho⟩
    · obtain ⟨o'', h1, h2⟩ := h.obj b R o' e g
      exact ⟨o'', by rw [heap_alloc_old (h.mlt b R e).2]; exact h1, h2.mono (Rho.le_bind hm)⟩
  imm R off v e := cell_alloc_old (h.imm R off v e)
  free b R e off := by
    simp only [Rho.bind] at e
    split at e
    · cases e; exact h.I_new (Nat.le_refl _) off
    · exact h.free b R e off
  plt p r e := by have := h.plt p r e; rw [size_alloc]; omega
  ver := h.ver
  pnm p r b e := by
    simp only [Rho.bind]
    split
    · intro h'; have h'' := Option.some.inj h'; have := (h.plt p r e).2; omega
    · exact h.pnm p r b e
  room p r e g := by rw [heap_alloc_old (h.plt p r g).2]; exact h.room p r e g
  apart := h.apart
theorem Fwd.fill {ρ : Rho} (w : World) {b0 : Nat} (hm : ρ.m b0 = none) (o : Obj) : Fwd ρ w (ρ.bind b0 w.heap.size) (w.alloc o) where
  le := Rho.le_bind hm
  new R hR := by
    rcases hR with ⟨b, hb⟩ | hR
    · simp only [Rho.bind] at hb
      split at hb
      · cases hb; exact .inr (Nat.le_refl _)
      · exact .inl (.inl ⟨b, hb⟩)
    · exact .inl (.inr hR)
  size := by rw [size_alloc]; omega
  kept R hR _ := heap_alloc_old hR
  os := rfl
  output := rfl
theorem look1_ext {s s' : St} (h : StExt s s') {a v : AVal} (hv : look1 s a = some v) : look1 s' a = some v := by
  cases a with
  | ptr b off =>
    simp only [look1] at hv ⊢
    cases hg : s.get b with
    | none => rw [hg] at hv; cases hv
    | some o => rw [h.get_some hg]; rw [hg] at hv; exact hv
  | vref cs => cases cs <;> exact hv
  | _ => exact hv
theorem lookN_ext {s s' : St} (h : StExt s s') {a : AVal} {n : Nat} {v : List AVal} (hv : lookN s a n = some v) : lookN s' a n = some v := by
  cases a with
  | ptr b off =>
    simp only [lookN] at hv ⊢
    cases hg : s.get b with
    | none => rw [hg] at hv; cases hv
    | some o => rw [h.get_some hg]; rw [hg] at hv; exact hv
  | _ => exact hv
theorem light_ext {H : Han} {op : AOp} {fr : List AVal} {s s' : St} {v : AVal} (hh : heavyA op = false) (h : evalOp H op fr s = some (v, s)) (he : StExt s s') : evalOp H op fr s' = some (v, s') := by
  cases hl : isLoad op with
  | false => exact (light_state hh h).2 hl s'
  | true =>
    cases op with
    | load1 a =>
      simp only [evalOp, Option.map_eq_some_iff, Prod.mk.injEq] at h ⊢
      obtain ⟨u, h1, h2, _⟩ := h
      exact ⟨u, look1_ext he h1, h2, trivial⟩
    | loadn n a =>
      simp only [evalOp, Option.map_eq_some_iff, Prod.mk.injEq] at h ⊢
      obtain ⟨u, h1, h2, _⟩ := h
      exact ⟨u, lookN_ext he h1, h2, trivial⟩
    | _ => simp [isLoad] at hl
theorem first_ex (p : Nat → Bool) : ∀ n : Nat, ∃ m, m ≤ n ∧ (∀ i, i < m → p i = false) ∧ (m = n ∨ p m = true)
  | 0 => ⟨0, Nat.le_refl _, fun i h => by omega, .inl rfl⟩
  | n + 1 => by
    obtain ⟨m, h1, h2, h3⟩ := first_ex p n
    rcases h3 with h3 | h3
    · subst h3
      cases hp : p m with
      | true => exact ⟨m, by omega, h2, .inr hp⟩
      | false => exact ⟨m + 1, by omega, fun i hi => by
          rcases Nat.lt_or_ge i m with h | h
          · exact h2 i h
          · rw [show i = m by omega]; exact hp, .inl rfl⟩
    · exact ⟨m, by omega, h2, .inr h3⟩

theorem load_same {P : Program} {ρ : Rho} {s : St} {w : World} {fr : List AVal} {e : Operand → Value} (hs : Sim P ρ s w) {t : TypeId} {a : Operand} {hint : Nat} {o : AOp} (hc : cOp P hint (.load t a) = some o) (ha : HOp ρ fr e a)
    {v : AVal} {s' : St} (H : Han) (hev : evalOp H o fr s = some (v, s')) :
    ∃ v', (do pure (Next.value (← Instr.loadAt t (e a))) : Sem Next).run P w = .ok (.value v') w ∧ VRel ρ v v' := by
  simp only [cOp, Option.pure_def, Option.bind_eq_bind, Option.bind_eq_some_iff] at hc
  obtain ⟨g, hg, hc⟩ := hc
  cases g
  · simp only [Bool.false_eq_true, if_false, Option.bind_eq_some_iff, Option.some.injEq] at hc
    obtain ⟨y, hy, rfl⟩ := hc
    simp only [evalOp, Option.map_eq_some_iff, Prod.mk.injEq] at hev
    obtain ⟨u, hl, rfl, rfl⟩ := hev
    obtain ⟨ad, val, h1, h2, h3, h4⟩ := look1_rel hs (ha y hy) hl
    refine ⟨val, ?_, h4⟩
    simp [Instr.loadAt, Instr.sureAddr, h1, loadVar, run_isAgg hg, h2]
  · simp only [if_true, Option.bind_eq_some_iff, Option.some.injEq] at hc
    obtain ⟨n, hn, y, hy, rfl⟩ := hc
    simp only [evalOp, Option.map_eq_some_iff, Prod.mk.injEq] at hev
    obtain ⟨cs, hl, rfl, rfl⟩ := hev
    obtain ⟨R, off, vs, h1, h2, h3, h4⟩ := lookN_rel hs (ha y hy) hl
    refine ⟨.agg vs.toArray, ?_, by simp only [VRel]; exact ⟨_, rfl, by simpa using h2⟩⟩
    have hr := run_loadCells_list (P := P) w (⟨R, off, none⟩ : Addr) vs h4
    rw [h3] at hr
    simp [Instr.loadAt, Instr.sureAddr, h1, loadVar, run_isAgg hg, run_size hn, hr]

section
variable {P : Program} {hint : Nat → Nat} {ops : Array Oper}

def alF (P : Program) (hint : Nat → Nat) (ops : Array Oper) (i : Nat) : Bool := (ops.toList.map fun o => allocI (cOper P hint ops o) o).getD i false
theorem getD_at {f : Oper → Bool} {i : Nat} {o : Oper} (ho : ops[i]? = some o) : (ops.toList.map f).getD i false = f o := by
  have : ops.toList[i]? = some o := by simpa using ho
  simp only [List.getD_eq_getElem?_getD, List.getElem?_map, this, Option.map_some, Option.getD_some]
theorem alF_at {i : Nat} {o : Oper} (ho : ops[i]? = some o) : alF P hint ops i = allocI (cOper P hint ops o) o := getD_at ho
theorem alF_lt {i : Nat} (h : alF P hint ops i = true) : i < ops.size := by
  rcases Nat.lt_or_ge i ops.size with h1 | h1
  · exact h1
  · unfold alF at h
    rw [List.getD_eq_getElem?_getD, List.getElem?_eq_none (by simpa using h1)] at h
    cases h
theorem allocI_spec {x : AInstr} {o : Oper} (h : allocI x o = true) : x.guard = none ∧ (∃ z, x.op = .alloc z) ∧ ∃ t, o.op = .alloc t := by
  unfold allocI at h
  simp only [Bool.and_eq_true] at h
  obtain ⟨h1, h2⟩ := h
  split at h1
  · rename_i z hg ho
    split at h2
    · rename_i t ht; exact ⟨hg, ⟨z, ho⟩, t, ht⟩
    · cases h2
  · cases h1
theorem loadI_spec {x : AInstr} {o : Oper} (h : loadI x o = true) : x.guard = none ∧ ∃ t a, o.op = .load t a := by
  unfold loadI at h
  simp only [Bool.and_eq_true] at h
  obtain ⟨h1, h2⟩ := h
  split at h1
  · rename_i hg
    split at h2
    · rename_i t a ht; exact ⟨hg, t, a, ht⟩
    · cases h2
  · cases h1
structure AllocFacts (P : Program) (hint : Nat → Nat) (ops : Array Oper) : Prop where
  F : DrawFacts P hint ops (alF P hint ops)
  after : ∀ (i j : Nat) (oj : Oper), alF P hint ops i = true → ops[j]? = some oj → heavyA (cOper P hint ops oj).op = true → alF P hint ops j = false → ((closure ops.toList []).getD j 0).testBit i = true
  light : ∀ (j : Nat) (oj : Oper), ops[j]? = some oj → heavyA (cOper P hint ops oj).op = false → loadI (cOper P hint ops oj) oj = true

theorem allocFacts (h : drawOkA ops.toList (ops.toList.map (namesOf ops)) ((ops.toList.map (cOper P hint ops)).map (heavyA ·.op)) (ops.toList.map fun o => allocI (cOper P hint ops o) o) (ops.toList.map fun o => loadI (cOper P hint ops o) o) (closure ops.toList []) = true) : AllocFacts P hint ops := by
  unfold drawOkA at h
  simp only [Bool.and_eq_true, List.all_eq_true, List.mem_range, Bool.or_eq_true, Bool.not_eq_true'] at h
  obtain ⟨⟨⟨h1, h2⟩, h3⟩, h0⟩ := h
  refine ⟨⟨fun j o ho e he hb => ?_, fun i j oi oj hij hi hj => ?_⟩, fun i j oj ha hj hh hna => ?_, fun j oj hj hh => ?_⟩
  · have hm : (o, j) ∈ ops.toList.zipIdx := by
      rw [List.mem_zipIdx_iff_getElem?]; simpa using ho
    have := h1 (o, j) hm
    simp only [Array.all_eq_true_iff_forall_mem, Bool.or_eq_true, Bool.not_eq_true', decide_eq_true_eq] at this
    rcases this e he with h3 | h3
    · rw [hb] at h3; cases h3
    · exact h3
  · have hjn : j < ops.toList.length := by
      have := (Array.getElem?_eq_some_iff.1 hj).1; simpa using this
    have gi : ops.toList[i]? = some oi := by simpa using hi
    have gj : ops.toList[j]? = some oj := by simpa using hj
    rcases h2 j hjn i hij with h3 | ⟨⟨h3, h4⟩, h5⟩
    · exact .inl h3
    · refine .inr ⟨?_, ?_, ?_⟩
      · rcases h3 with h3 | h3
        · left
          rintro ⟨h6, h7⟩
          simp only [List.map_map, List.getD_eq_getElem?_getD, List.getElem?_map, gi, gj, Option.map_some, Option.getD_some, Function.comp, h6, h7, Bool.and_self] at h3
          cases h3
        · right; exact h3
      · intro d hd hm
        simp only [List.getD_eq_getElem?_getD, List.getElem?_map, gi, gj, Option.map_some, Option.getD_some, hd] at h4
        simp at h4; exact h4 hm
      · intro d hd hm
        simp only [List.getD_eq_getElem?_getD, List.getElem?_map, gi, gj, Option.map_some, Option.getD_some, hd] at h5
        simp at h5; exact h5 hm
  · have hjn : j < ops.toList.length := by
      have := (Array.getElem?_eq_some_iff.1 hj).1; simpa using this
    have gj : ops.toList[j]? = some oj := by simpa using hj
    rcases h3 j hjn with (h4 | h4) | h4
    · simp only [List.map_map, List.getD_eq_getElem?_getD, List.getElem?_map, gj, Option.map_some, Option.getD_some, Function.comp, hh] at h4
      cases h4
    · change alF P hint ops j = true at h4
      rw [hna] at h4; cases h4
    · rcases h4 i (by have := alF_lt ha; simpa using this) with h5 | h5
      · change alF P hint ops i = false at h5
        rw [ha] at h5; cases h5
      · exact h5
  · have hjn : j < ops.toList.length := by
      have := (Array.getElem?_eq_some_iff.1 hj).1; simpa using this
    have gj : ops.toList[j]? = some oj := by simpa using hj
    rcases h0 j hjn with h4 | h4
    · simp only [List.map_map, List.getD_eq_getElem?_getD, List.getElem?_map, gj, Option.map_some, Option.getD_some, Function.comp, hh] at h4
      cases h4
    · rwa [getD_at hj] at h4

/-- The invariant while allocations are still to be done. -/
structure DInvA (P : Program) (hint : Nat → Nat) (ops : Array Oper) (T : Nat → List AVal) (S : Nat → St) (listed : Array Bool) (τ : Array Value) (ρ : Rho) (w : World) (m : Nat) : Prop where
  size : listed.size = ops.size
  closed : Closed ops.toList (fun i => listed.getD i false = true)
  hA : ∀ i o, ops[i]? = some o → heavyA (cOper P hint ops o).op = true → listed.getD i false = true → alF P hint ops i = true
  sim : Sim P ρ (S m) w
  mp : ∀ i, alF P hint ops i = true → ((∃ R, ρ.m (S i).n = some R) ↔ listed.getD i false = true)
  tm : ∀ t k, k ≤ ops.size → (∀ i o, ops[i]? = some o → o.dst = some t → (i < k ↔ listed.getD i false = true)) → TRel ρ (T k) τ t

/-- The temporaries behind one more operation. -/
theorem tm_next {al : Nat → Bool} {H : Han} {T : Nat → List AVal} {S : Nat → St} {v : Nat → AVal} {L : List St} (F : DrawFacts P hint ops al) (R : Rec P hint ops H T S v L) {listed : Array Bool} {τ : Array Value} {ρ : Rho}
    (Isize : listed.size = ops.size) (Iclosed : Closed ops.toList (fun i => listed.getD i false = true)) (Itm : ∀ t k, k ≤ ops.size → (∀ i o, ops[i]? = some o → o.dst = some t → (i < k ↔ listed.getD i false = true)) → TRel ρ (T k) τ t)
    (hsz : τ.size = (T 0).length) (hT : ∀ i, i ≤ ops.size → (T i).length = (T 0).length) {i : Nat} {o : Oper} (ho : ops[i]? = some o) (hD0 : listed.getD i false = false)
    {v' : Value} {ρ' : Rho} (hv : VRel ρ' (v i) v') (hTi : T (i + 1) = putA (T i) o.dst (v i)) (hle : ρ.le ρ') :
    ∀ t k, k ≤ ops.size → (∀ j oj, ops[j]? = some oj → oj.dst = some t → (j < k ↔ (listed.setIfInBounds i true).getD j false = true)) → TRel ρ' (T k) (putT τ o.dst v') t := by
  have hin : i < ops.size := (Array.getElem?_eq_some_iff.1 ho).1
  have hil : i < listed.size := by rw [Isize]; exact hin
  intro t kk hk hw
  by_cases hd : o.dst = some t
  · have hik : i < kk := (hw i o ho hd).2 (by rw [getD_set _ _ _ hil]; simp)
    have hlast : ∀ m, i + 1 ≤ m → m ≤ kk → (T m).getD t undefA = (T (i + 1)).getD t undefA := by
      intro m
      induction m with
      | zero => intro h; omega
      | succ m ih =>
        intro h1 h2
        by_cases hm : m = i
        · subst hm; rfl
        · rw [← ih (by omega) (by omega)]
          have hmn : m < ops.size := by omega
          have hom : ops[m]? = some ops[m] := Array.getElem?_eq_getElem hmn
          have hne : ops[m].dst ≠ some t := by
            intro hdm
            have h3 := (hw m _ hom hdm).1 (by omega)
            rw [getD_set _ _ _ hil, if_neg hm] at h3
            rcases F.pairs i m o _ (by omega) ho hom with hb | ⟨_, _, h5⟩
            · have := closed_bit Iclosed hb h3; rw [hD0] at this; cases this
            · exact h5 t hdm (by simp only [namesOf, List.mem_append]; exact .inl (.inl (by rw [hd]; simp)))
          have hput : ∀ u, (putA (T m) (cOper P hint ops ops[m]).dst u).getD t undefA = (T m).getD t undefA := by
            intro u
            rw [cOper_dst]
            cases hdm : ops[m].dst with
            | none => rfl
            | some d =>
              rw [putA_getD, if_neg]
              rintro ⟨h6, _⟩
              exact hne (by rw [hdm, h6])
          rcases R.did m _ hom with ⟨_, _, h4, _⟩ | ⟨_, _, _, h4, _⟩
          · simp only at h4; rw [h4, hput]
          · simp only at h4; rw [h4, hput]
    unfold TRel
    rw [hlast kk (by omega) (Nat.le_refl _), hTi, hd, putA_getD, putT_getD]
    have hll : (T i).length = τ.size := by rw [hT i (by omega), hsz]
    by_cases hlt : t < τ.size
    · rw [if_pos ⟨rfl, by omega⟩, if_pos ⟨rfl, hlt⟩]; exact hv
    · rw [if_neg (by omega), if_neg (by omega)]
      rw [List.getD_eq_getElem?_getD, List.getElem?_eq_none (by omega), Array.getD_eq_getD_getElem?, Array.getElem?_eq_none (by omega)]
      exact undef_rel ρ'
  · have hold : TRel ρ (T kk) τ t := Itm t kk hk fun j oj hj hdj => by
      have := hw j oj hj hdj
      rw [getD_set _ _ _ hil] at this
      by_cases h2 : j = i
      · subst h2; rw [ho] at hj; cases hj; exact absurd hdj hd
      · rwa [if_neg h2] at this
    have : (putT τ o.dst v').getD t undef = τ.getD t undef := by
      cases hdd : o.dst with
      | none => rfl
      | some d =>
        rw [putT_getD, if_neg]
        rintro ⟨rfl, _⟩
        exact hd hdd
    unfold TRel
    rw [this]
    exact hold.mono hle
theorem closed_next {listed : Array Bool} (Isize : listed.size = ops.size) (Iclosed : Closed ops.toList (fun i => listed.getD i false = true)) {i : Nat} {o : Oper} (ho : ops[i]? = some o) (hp : ∀ e ∈ o.after, Region.binds .any e = true → listed.getD e.on false = true) :
    Closed ops.toList (fun j => (listed.setIfInBounds i true).getD j false = true) := by
  have hil : i < listed.size := by rw [Isize]; exact (Array.getElem?_eq_some_iff.1 ho).1
  intro j oj hj hDj e he hb
  have hDj : (listed.setIfInBounds i true).getD j false = true := hDj
  show (listed.setIfInBounds i true).getD e.on false = true
  rw [getD_set _ _ _ hil] at hDj ⊢
  by_cases h1 : e.on = i
  · simp [h1]
  · rw [if_neg h1]
    by_cases h2 : j = i
    · subst h2
      rw [Array.getElem?_toList, ho] at hj; cases hj
      exact hp e he hb
    · rw [if_neg h2] at hDj
      exact Iclosed j oj hj hDj e he hb
section
variable {H : Han} {T : Nat → List AVal} {S : Nat → St} {v : Nat → AVal} {L : List St} (A : AllocFacts P hint ops) (R : Rec P hint ops H T S v L)
include A R
/-- What an allocation of the text's order did. -/
theorem alloc_did {i : Nat} (ha : alF P hint ops i = true) : ∃ o z, ops[i]? = some o ∧ ((cOper P hint ops o).guard = none ∧ ∃ t, o.op = .alloc t) ∧ (cOper P hint ops o).op = .alloc z ∧ v i = .ptr (S i).n 0 ∧ S (i + 1) = (S i).push (.cells z) ∧ T (i + 1) = putA (T i) o.dst (v i) := by
  have hin := alF_lt ha
  have ho : ops[i]? = some ops[i] := Array.getElem?_eq_getElem hin
  rw [alF_at ho] at ha
  obtain ⟨hg, ⟨z, hz⟩, ht⟩ := allocI_spec ha
  refine ⟨ops[i], z, ho, ⟨hg, ht⟩, hz, ?_⟩
  have := R.did i _ ho
  simp only [Did] at this
  rcases this with ⟨_, h1, h2, _⟩ | ⟨h1, _⟩
  · rw [hz] at h1
    simp only [evalOp, Option.some.injEq, Prod.mk.injEq] at h1
    rw [cOper_dst] at h2
    exact ⟨h1.1.symm, h1.2.symm, h2⟩
  · rw [hg] at h1; simp [wantedA] at h1
variable {m : Nat} (hmn : m ≤ ops.size) (hm1 : ∀ i o, i < m → ops[i]? = some o → heavyA (cOper P hint ops o).op = true → alF P hint ops i = true)
include hmn hm1
theorem ext_step {i : Nat} (hi : i < m) : StExt (S i) (S (i + 1)) := by
  cases ha : alF P hint ops i with
  | true =>
    obtain ⟨_, z, _, _, _, _, h, _⟩ := alloc_did A R ha
    rw [h]; exact StExt.push _ _
  | false =>
    have ho : ops[i]? = some ops[i] := Array.getElem?_eq_getElem (by omega)
    have := S_light R 1 i (by omega) (fun k o h1 h2 hk => by
      have : k = i := by omega
      subst this
      cases hh : heavyA (cOper P hint ops o).op with
      | false => rfl
      | true => rw [hm1 k o hi hk hh] at ha; cases ha)
    rw [this]; exact StExt.refl _
theorem ext_to : ∀ (k i : Nat), i + k ≤ m → StExt (S i) (S (i + k))
  | 0, i, _ => StExt.refl _
  | k + 1, i, h => (ext_to k i (by omega)).trans (ext_step A R hmn hm1 (i := i + k) (by omega))
theorem ext_m {i : Nat} (h : i ≤ m) : StExt (S i) (S m) := by
  have := ext_to A R hmn hm1 (m - i) i (by omega)
  rwa [show i + (m - i) = m by omega] at this
variable (hm2 : ∀ i, alF P hint ops i = true → i < m)
include hm2
theorem bl_ne {i j : Nat} (hi : alF P hint ops i = true) (hj : alF P hint ops j = true) (h : i ≠ j) : (S i).n ≠ (S j).n := by
  have key : ∀ i j, alF P hint ops i = true → alF P hint ops j = true → i < j → (S i).n < (S j).n := by
    intro i j hi hj hij
    obtain ⟨_, z, _, _, _, _, h1, _⟩ := alloc_did A R hi
    have hjm := hm2 j hj
    have := (ext_to A R hmn hm1 (j - (i + 1)) (i + 1) (by omega)).n
    rw [show i + 1 + (j - (i + 1)) = j by omega, h1] at this
    exact this
  rcases Nat.lt_or_ge i j with g | g
  · have := key i j hi hj g; omega
  · have := key j i hj hi (by omega); omega

/-- One step of the drawn order, while allocations are still to be done. -/
theorem stepA (hcall : CallOk P H) (hround : RoundOk P H) {listed : Array Bool} {τ : Array Value} {ρ : Rho} {w : World}
    (I : DInvA P hint ops T S listed τ ρ w m) (hsz : τ.size = (T 0).length) (hT : ∀ i, i ≤ ops.size → (T i).length = (T 0).length) (hun : ∃ a, alF P hint ops a = true ∧ listed.getD a false = false)
    {i : Nat} {o : Oper} (ho : ops[i]? = some o) (hr : listed.getD i true = false) (hp : ∀ e ∈ o.after, Region.binds .any e = true → listed.getD e.on false = true)
    (fn : FuncId) (rest : List Nat) (k : List Item) (ds : List Deferred) (kind : CallKind) (ro : Option Nat) (cs : List Frame) :
    ∃ τ' w' ρ', Steps P (lone (fr8 fn τ (.inRegion ops (i :: rest) :: k) ds kind ro) cs w) (lone (fr8 fn τ' (.inRegion ops rest :: k) ds kind ro) cs w') ∧ DInvA P hint ops T S (listed.setIfInBounds i true) τ' ρ' w' m ∧ τ'.size = τ.size ∧ Fwd ρ w ρ' w' := by
  have hin : i < ops.size := (Array.getElem?_eq_some_iff.1 ho).1
  have hil : i < listed.size := by rw [I.size]; exact hin
  have hD0 : listed.getD i false = false := by
    rw [Array.getD_eq_getD_getElem?, Array.getElem?_eq_getElem hil] at hr ⊢
    exact hr
  have F := A.F
  have hnames : ∀ t, t ∈ namesOf ops o → ∀ j oj, ops[j]? = some oj → oj.dst = some t → (j < i ↔ listed.getD j false = true) := by
    intro t ht j oj hj hd
    rcases Nat.lt_trichotomy j i with hlt | heq | hgt
    · refine ⟨fun _ => ?_, fun _ => hlt⟩
      rcases F.pairs j i oj o hlt hj ho with hb | ⟨_, h2, _⟩
      · exact ready_bit I.closed ho hb hp
      · exact absurd ht (h2 t hd)
    · subst heq; simp [hD0]
    · refine ⟨fun h => by omega, fun h => ?_⟩
      rcases F.pairs i j o oj hgt ho hj with hb | ⟨_, _, h3⟩
      · have := closed_bit I.closed hb h; rw [hD0] at this; cases this
      · exact absurd ht (h3 t hd)
  have hlook : ∀ t ∈ looks ops o, TRel ρ (T i) τ t := fun t ht => I.tm t i (by omega) (hnames t (looks_names ht))
  have hset : ∀ j, (listed.setIfInBounds i true).getD j false = if j = i then true else listed.getD j false := fun j => getD_set _ _ _ hil _
  cases ha : alF P hint ops i with
  | true =>
    obtain ⟨o', z, ho', ⟨hg, ty, hop⟩, hz, hvi, hSi, hTi⟩ := alloc_did A R ha
    rw [ho] at ho'; cases ho'
    have him := hm2 i ha
    have hget : (S m).get (S i).n = some (.cells z) := (ext_m A R hmn hm1 (i := i + 1) (by omega)).get_some (by rw [hSi]; exact St.get_push_new _ _)
    have hnone : ρ.m (S i).n = none := by
      cases e : ρ.m (S i).n with
      | none => rfl
      | some R0 => have := (I.mp i ha).1 ⟨R0, e⟩; rw [hD0] at this; cases this
    -- the concrete operation
    have hstep : ∃ v' w', Steps P (lone (fr8 fn τ (.inRegion ops (i :: rest) :: k) ds kind ro) cs w) (lone (fr8 fn (putT τ o.dst v') (.inRegion ops rest :: k) ds kind ro) cs w') ∧ VRel (ρ.bind (S i).n w.heap.size) (.ptr (S i).n 0) v' ∧ Sim P (ρ.bind (S i).n w.heap.size) (S m) w' ∧ Fwd ρ w (ρ.bind (S i).n w.heap.size) w' := by
      unfold cOper at hg hz
      cases hgd : cGuard ops o.guard with
      | none => rw [hgd] at hz; simp at hz
      | some g =>
        simp only [hgd] at hg hz
        subst hg
        cases hc : cOp P (hintOf hint o.dst) o.op with
        | none => rw [hc] at hz; simp at hz
        | some ao =>
          rw [hc] at hz
          simp only [Option.getD_some] at hz
          subst hz
          have hwt := wanted_eq hgd hlook (by simp [badG])
          have hw : Region.wanted o (yielded ops τ) = true := by rw [hwt]; rfl
          rw [hop] at hc
          simp only [cOp, Option.pure_def, Option.bind_eq_bind, Option.bind_eq_some_iff, Option.some.injEq] at hc
          obtain ⟨zv, hzt, hze⟩ := hc
          cases hze
          obtain ⟨u, h1, h2, h3⟩ := run_zero (P := P) (ρ := ρ) hzt
          have hrun : (execOp (evT τ) o).run P w = .ok (.value (.pointer (some ⟨w.heap.size, 0, none⟩))) (w.alloc (.cells u.cells ty)) := by
            simp only [execOp, hop]
            simp [Instr.alloc, h1, newVar, newRow]
          refine ⟨.pointer (some ⟨w.heap.size, 0, none⟩), w.alloc (.cells u.cells ty), .one (st_op ho hw (fun c h => by rw [hop] at h; cases h) hrun (.inl rfl)), ?_, I.sim.fill hget hnone (ORel_cells (CRel.mono (Rho.le_bind hnone) _ _ (h2.cells h3))), Fwd.fill w hnone _⟩
          simp only [VRel]; exact ⟨w.heap.size, by simp [Rho.bind], rfl⟩
    obtain ⟨v', w', g1, g2, g3, g4⟩ := hstep
    refine ⟨_, w', ρ.bind (S i).n w.heap.size, g1, ⟨by simp [I.size], closed_next I.size I.closed ho hp, fun j oj hj hhj hlj => ?_, g3, fun j hj => ?_, tm_next F R I.size I.closed I.tm hsz hT ho hD0 (by rw [hvi]; exact g2) hTi g4.le⟩, putT_size _ _ _, g4⟩
    · rw [hset] at hlj
      by_cases h2 : j = i
      · subst h2; exact ha
      · rw [if_neg h2] at hlj; exact I.hA j oj hj hhj hlj
    · rw [hset]
      by_cases h2 : j = i
      · subst h2; simp [Rho.bind]
      · rw [if_neg h2, ← I.mp j hj]
        have := bl_ne A R hmn hm1 hm2 hj ha h2
        simp only [Rho.bind, if_neg this]
  | false =>
    have hdid := R.did i o ho
    simp only [Did] at hdid
    have hheavy : heavyA (cOper P hint ops o).op = false := by
      cases hh : heavyA (cOper P hint ops o).op with
      | false => rfl
      | true =>
        obtain ⟨a, h1, h2⟩ := hun
        have := ready_bit I.closed ho (A.after a i o h1 ho hh ha) hp
        rw [h2] at this; cases this
    obtain ⟨hg, ty, ad, hop⟩ := loadI_spec (A.light i o ho hheavy)
    rcases hdid with ⟨hw, hev0, hTi, _⟩ | ⟨hw, _⟩
    case inr => rw [hg] at hw; simp [wantedA] at hw
    rw [cOper_dst] at hTi
    have hev : evalOp H (cOper P hint ops o).op (T i) (S m) = some (v i, S m) := by
      rcases Nat.lt_or_ge i m with h | h
      · have h1 := light_state hheavy hev0
        rw [h1.1] at hev0
        exact light_ext hheavy hev0 (ext_m A R hmn hm1 (by omega))
      · refine light_at_of F R hmn ho (fun k ok hok hh => ⟨fun hb => ?_, fun hlt => ?_⟩) hheavy hw
        · exact hm2 k (I.hA k ok hok hh (ready_bit I.closed ho hb hp))
        · refine ⟨?_, by rw [bne_iff_ne]; omega⟩
          cases hb : ((closure ops.toList []).getD k 0).testBit i with
          | false => rfl
          | true => have := bit_lt F hb; omega
    have hstep : ∃ v', Steps P (lone (fr8 fn τ (.inRegion ops (i :: rest) :: k) ds kind ro) cs w) (lone (fr8 fn (putT τ o.dst v') (.inRegion ops rest :: k) ds kind ro) cs w) ∧ VRel ρ (v i) v' := by
      unfold cOper at hg hev
      cases hgd : cGuard ops o.guard with
      | none => rw [hgd] at hev; simp [evalOp] at hev
      | some g =>
        simp only [hgd] at hg hev
        subst hg
        cases hc : cOp P (hintOf hint o.dst) o.op with
        | none => rw [hc] at hev; simp [evalOp] at hev
        | some ao =>
          rw [hc] at hev
          simp only [Option.getD_some] at hev
          have hwt := wanted_eq hgd hlook (by simp [badG])
          have hw : Region.wanted o (yielded ops τ) = true := by rw [hwt]; rfl
          have HO : ∀ x ∈ o.op.operands.toList, HOp ρ (T i) (evT τ) x := fun x hx => hop_of fun t ht => hlook t (by subst ht; simp only [looks, List.mem_append, List.mem_filterMap]; exact .inl ⟨_, hx, rfl⟩)
          rw [hop] at hc HO
          obtain ⟨v', h1, h2⟩ := load_same I.sim hc (HO ad (by simp [Op.operands])) H hev
          refine ⟨v', .one (st_op ho hw (fun c h => by rw [hop] at h; cases h) ?_ (.inl rfl)), h2⟩
          simp only [execOp, hop]
          exact h1
    obtain ⟨v', g1, g2⟩ := hstep
    refine ⟨_, w, ρ, g1, ⟨by simp [I.size], closed_next I.size I.closed ho hp, fun j oj hj hhj hlj => ?_, I.sim, fun j hj => ?_, tm_next F R I.size I.closed I.tm hsz hT ho hD0 g2 hTi ρ.le_refl⟩, putT_size _ _ _, Fwd.refl ρ w⟩
    · rw [hset] at hlj
      by_cases h2 : j = i
      · subst h2; rw [ho] at hj; cases hj; rw [hheavy] at hhj; cases hhj
      · rw [if_neg h2] at hlj; exact I.hA j oj hj hhj hlj
    · rw [hset]
      by_cases h2 : j = i
      · subst h2; rw [ha] at hj; cases hj
      · rw [if_neg h2]; exact I.mp j hj
theorem runA (hcall : CallOk P H) (hround : RoundOk P H) (hT : ∀ i, i ≤ ops.size → (T i).length = (T 0).length) (fn : FuncId) (k : List Item) (ds : List Deferred) (kind : CallKind) (ro : Option Nat) (cs : List Frame) :
    ∀ (fuel t : Nat) {listed : Array Bool} {τ : Array Value} {ρ : Rho} {w : World}, unl ops.size listed ≤ fuel → DInvA P hint ops T S listed τ ρ w m → τ.size = (T 0).length →
      ∃ τ' w' ρ', Steps P (lone (fr8 fn τ (.inRegion ops (Region.linearise.go .any ops fuel t listed []) :: k) ds kind ro) cs w) (lone (fr8 fn τ' (.inRegion ops [] :: k) ds kind ro) cs w') ∧ VRels ρ' (T ops.size) τ'.toList ∧ Sim P ρ' (S ops.size) w' ∧ Fwd ρ w ρ' w' := by
  have done : ∀ (fuel t : Nat) {listed : Array Bool} {τ : Array Value} {ρ : Rho} {w : World}, unl ops.size listed ≤ fuel → DInvA P hint ops T S listed τ ρ w m → τ.size = (T 0).length → (¬ ∃ a, alF P hint ops a = true ∧ listed.getD a false = false) →
      ∃ τ' w' ρ', Steps P (lone (fr8 fn τ (.inRegion ops (Region.linearise.go .any ops fuel t listed []) :: k) ds kind ro) cs w) (lone (fr8 fn τ' (.inRegion ops [] :: k) ds kind ro) cs w') ∧ VRels ρ' (T ops.size) τ'.toList ∧ Sim P ρ' (S ops.size) w' ∧ Fwd ρ w ρ' w' := by
    intro fuel t listed τ ρ w hu I hsz hun
    have hall : ∀ i, alF P hint ops i = true → listed.getD i false = true := fun i hi => by
      cases h : listed.getD i false with
      | true => rfl
      | false => exact absurd ⟨i, hi, h⟩ hun
    exact draw_run hcall hround A.F R hT fn k ds kind ro cs fuel t hu ⟨I.size, I.closed, fun i o ho hh => ⟨fun hl => hm2 i (I.hA i o ho hh hl), fun hlt => hall i (hm1 i o hlt ho hh)⟩, hmn, I.sim, I.tm⟩ hsz hall
  intro fuel
  induction fuel with
  | zero =>
    intro t listed τ ρ w hu I hsz
    refine done 0 t hu I hsz ?_
    rintro ⟨a, h1, h2⟩
    have h3 := unl_zero (n := ops.size) (listed := listed) (by omega) a (alF_lt h1)
    have : a < listed.size := by rw [I.size]; exact alF_lt h1
    rw [Array.getD_eq_getD_getElem?, Array.getElem?_eq_getElem this] at h2 h3
    rw [Option.getD_some] at h2 h3
    rw [h2] at h3; cases h3
  | succ fuel ih =>
    intro t listed τ ρ w hu I hsz
    by_cases hun : ∃ a, alF P hint ops a = true ∧ listed.getD a false = false
    · simp only [Region.linearise.go]
      change ∃ τ' w' ρ', Steps P (lone (fr8 fn τ (.inRegion ops (match (Region.ready .any ops listed)[t % (Region.ready .any ops listed).length]? with
        | some i => Region.linearise.go .any ops fuel (t / (Region.ready .any ops listed).length) (listed.setIfInBounds i true) [i]
        | none => [].reverse) :: k) ds kind ro) cs w) _ ∧ _
      cases hi : (Region.ready .any ops listed)[t % (Region.ready .any ops listed).length]? with
      | none =>
        exfalso
        have hnil : Region.ready .any ops listed = [] := by
          cases hr : Region.ready .any ops listed with
          | nil => rfl
          | cons x xs =>
            rw [hr] at hi
            have hlt : t % (x :: xs).length < (x :: xs).length := Nat.mod_lt _ (by simp)
            rw [List.getElem?_eq_getElem hlt] at hi
            cases hi
        have hall : ∀ i, i < ops.size → listed.getD i true = true := by
          intro i
          induction i using Nat.strongRecOn with
          | _ i ih =>
            intro hin
            cases hl : listed.getD i true with
            | true => rfl
            | false =>
              exfalso
              have ho : ops[i]? = some ops[i] := Array.getElem?_eq_getElem hin
              have hm : i ∈ Region.ready .any ops listed := by
                simp only [Region.ready, List.mem_filter, List.mem_range]
                refine ⟨hin, ?_⟩
                simp only [hl, Bool.not_false, Bool.true_and, ho, Option.map_some, Option.getD_some, Array.all_eq_true_iff_forall_mem, Bool.or_eq_true, Bool.not_eq_true']
                intro e he
                cases hb : Region.binds .any e with
                | false => exact .inl rfl
                | true =>
                  right
                  have hlt := A.F.edges i _ ho e he hb
                  have h1 := ih e.on hlt (by omega)
                  have : e.on < listed.size := by rw [I.size]; omega
                  rw [Array.getD_eq_getD_getElem?, Array.getElem?_eq_getElem this] at h1 ⊢
                  exact h1
              rw [hnil] at hm; simp at hm
        obtain ⟨a, h1, h2⟩ := hun
        have h3 := hall a (alF_lt h1)
        have : a < listed.size := by rw [I.size]; exact alF_lt h1
        rw [Array.getD_eq_getD_getElem?, Array.getElem?_eq_getElem this] at h2 h3
        rw [Option.getD_some] at h2 h3
        rw [h2] at h3; cases h3
      | some i =>
        have hm := List.mem_of_getElem? hi
        simp only [Region.ready, List.mem_filter, List.mem_range, Bool.and_eq_true, Bool.not_eq_true'] at hm
        obtain ⟨hin, hl, hp⟩ := hm
        have ho : ops[i]? = some ops[i] := Array.getElem?_eq_getElem hin
        simp only [ho, Option.map_some, Option.getD_some, Array.all_eq_true_iff_forall_mem, Bool.or_eq_true, Bool.not_eq_true'] at hp
        have hp' : ∀ e ∈ ops[i].after, Region.binds .any e = true → listed.getD e.on false = true := fun e he hb => by
          rcases hp e he with h | h
          · rw [hb] at h; cases h
          · exact h
        simp only []
        rw [linearise_go_acc, List.reverse_singleton, List.singleton_append]
        obtain ⟨τ1, w1, ρ1, g1, g2, g3, g4⟩ := stepA A R hmn hm1 hm2 hcall hround I hsz hT hun ho hl hp' fn (Region.linearise.go .any ops fuel (t / (Region.ready .any ops listed).length) (listed.setIfInBounds i true) []) k ds kind ro cs
        have hu' : unl ops.size (listed.setIfInBounds i true) ≤ fuel := by have := unl_set I.size hin hl; omega
        obtain ⟨τ', w', ρ', g5, g6, g7, g8⟩ := ih _ hu' g2 (by rw [g3, hsz])
        exact ⟨τ', w', ρ', g1.trans g5, g6, g7, g4.trans g8⟩
    · exact done (fuel + 1) t hu I hsz hun
end
/-- A region that draws its order, in which allocations have no order among each other. -/
theorem dops_runA {H : Han} (hcall : CallOk P H) (hround : RoundOk P H) (hm : P.follows .mixedOrders = true)
    (hd : drawOkA ops.toList (ops.toList.map (namesOf ops)) ((ops.toList.map (cOper P hint ops)).map (heavyA ·.op)) (ops.toList.map fun o => allocI (cOper P hint ops o) o) (ops.toList.map fun o => loadI (cOper P hint ops o) o) (closure ops.toList []) = true)
    {fr fr' : List AVal} {s s' : St} {ρ : Rho} {w : World} {τ : Array Value}
    (hev : evalD H ((ops.toList.map (cOper P hint ops)).zipIdx.map fun (x : AInstr × Nat) =>
        (x.1, countTrue ((List.range ops.size).map fun k => ((ops.toList.map (cOper P hint ops)).map (heavyA ·.op)).getD k false && ((closure ops.toList []).getD x.2 0).testBit k),
         countTrue ((List.range ops.size).map fun k => ((ops.toList.map (cOper P hint ops)).map (heavyA ·.op)).getD k false && (!((closure ops.toList []).getD k 0).testBit x.2 && k != x.2)))) fr s [s] [] = some (fr', s'))
    (hs : Sim P ρ s w) (hv : VRels ρ fr τ.toList) (fn : FuncId) (id : Nat) (k : List Item) (ds : List Deferred) (kind : CallKind) (ro : Option Nat) (cs : List Frame) :
    ∃ τ' w' ρ', Steps P (lone (fr8 fn τ (.code (.region id ops true) :: k) ds kind ro) cs w) (lone (fr8 fn τ' k ds kind ro) cs w') ∧ VRels ρ' fr' τ'.toList ∧ Sim P ρ' s' w' ∧ Fwd ρ w ρ' w' := by
  have A := allocFacts hd
  refine dops_of hm (fun {T S v L} R hT fn k ds kind ro cs t {listed τ ρ w} hu I hsz hnone => ?_) hev hs hv fn id k ds kind ro cs
  obtain ⟨m, hmn, hp, hlast⟩ := first_ex (fun i => match ops[i]? with | some o => heavyA (cOper P hint ops o).op && !alF P hint ops i | none => false) ops.size
  have hm1 : ∀ i o, i < m → ops[i]? = some o → heavyA (cOper P hint ops o).op = true → alF P hint ops i = true := by
    intro i o hi ho hh
    have := hp i hi
    simp only [ho, hh, Bool.true_and, Bool.not_eq_false'] at this
    exact this
  have hm2 : ∀ i, alF P hint ops i = true → i < m := by
    intro i hi
    rcases hlast with h | h
    · rw [h]; exact alF_lt hi
    · split at h
      · rename_i o ho
        simp only [Bool.and_eq_true, Bool.not_eq_true'] at h
        exact bit_lt A.F (A.after i m o hi ho h.1 h.2)
      · cases h
  refine runA A R hmn hm1 hm2 hcall hround hT fn k ds kind ro cs ops.size t hu ⟨I.size, I.closed, fun i o ho hh hl => (by rw [hnone] at hl; cases hl), I.sim.ext (ext_m A R hmn hm1 (Nat.zero_le m)), fun i hi => ?_, I.tm⟩ hsz
  rw [hnone]
  refine ⟨?_, fun h => by cases h⟩
  rintro ⟨R0, hR⟩
  have h1 := (I.sim.mlt _ _ hR).1
  have h2 := (ext_to A R hmn hm1 i 0 (by have := hm2 i hi; omega)).n
  rw [Nat.zero_add] at h2
  omega
end
end Go.Proofs.Ytlhfeiacigmliaa

/- Soundness: what the evaluator returns, the machine returns. -/
namespace Go.Proofs.Ytlhfeiacigmliaa
open Go

def coll (r : Nat) : Deferred := { target := .collected r, args := #[] }

/-- The deferred calls of a running frame: those of loops over functions, none of which holds a call. -/
def DefOk (base : Nat) (ρ : Rho) (w : World) (ds : List Deferred) : Prop :=
  ∃ rs : List Nat, ds = rs.map coll ∧ rs.Nodup ∧ ∀ r ∈ rs, base ≤ r ∧ r < w.heap.size ∧ w.heap[r]? = some (.deferred (some [])) ∧ ¬ ρ.touch r

theorem DefOk.nil (base : Nat) (ρ : Rho) (w : World) : DefOk base ρ w [] := ⟨[], rfl, List.nodup_nil, fun r h => by simp at h⟩
theorem DefOk.fwd {base : Nat} {ρ ρ' : Rho} {w w' : World} {ds : List Deferred} (h : DefOk base ρ w ds) (hf : Fwd ρ w ρ' w') : DefOk base ρ' w' ds := by
  obtain ⟨rs, h1, h2, h3⟩ := h
  refine ⟨rs, h1, h2, fun r hr => ?_⟩
  obtain ⟨g1, g2, g3, g4⟩ := h3 r hr
  refine ⟨g1, Nat.lt_of_lt_of_le g2 hf.size, by rw [hf.kept r g2 g4]; exact g3, fun ht => ?_⟩
  rcases hf.new r ht with h | h
  · exact g4 h
  · omega

def Out (P : Program) (fn : FuncId) (kind : CallKind) (ro : Option Nat) (cs : List Frame) (m0 : Machine) (k : List Item) (e : AExit) (tmps' : Array Value) (ds' : List Deferred) (w' : World) : Prop :=
  match e with
  | .normal => Steps P m0 (lone (fr8 fn tmps' k ds' kind ro) cs w')
  | .exit id => ∃ k', exitTo id k' = exitTo id k ∧ Steps P m0 (lone (fr8 fn tmps' (.code (.exit id) :: k') ds' kind ro) cs w')
  | .ret => ∃ k', Steps P m0 (lone (fr8 fn tmps' (.code .ret :: k') ds' kind ro) cs w')

theorem Out.of_steps {P : Program} {fn : FuncId} {kind : CallKind} {ro : Option Nat} {cs : List Frame} {m0 m1 : Machine} {k : List Item} {e : AExit} {tmps' : Array Value} {ds' : List Deferred} {w' : World}
    (h : Steps P m0 m1) (h' : Out P fn kind ro cs m1 k e tmps' ds' w') : Out P fn kind ro cs m0 k e tmps' ds' w' := by
  cases e with
  | normal => exact h.trans h'
  | exit id => obtain ⟨k', h1, h2⟩ := h'; exact ⟨k', h1, h.trans h2⟩
  | ret => obtain ⟨k', h2⟩ := h'; exact ⟨k', h.trans h2⟩

/-- What a run of a piece of code gives. -/
def Runs (P : Program) (base : Nat) (fn : FuncId) (kind : CallKind) (ro : Option Nat) (cs : List Frame) (m0 : Machine) (k : List Item) (ρ : Rho) (w : World) (e : AExit) (fr' : List AVal) (s' : St) : Prop :=
  ∃ ρ' w' tmps' ds', Sim P ρ' s' w' ∧ Fwd ρ w ρ' w' ∧ VRels ρ' fr' tmps'.toList ∧ DefOk base ρ' w' ds' ∧ Out P fn kind ro cs m0 k e tmps' ds' w'

def LoopOk (P : Program) (H : Han) : Prop := ∀ c n keep vals s e vals' s', H (.loop c n keep vals) s = some (e, vals', s') → ∀ hint kp rnd pos c', cCode P hint kp rnd pos c' = c → ∀ base ρ w tmps fn k ds kind ro cs, Sim P ρ s w → VRels ρ (fillK n keep.head vals) tmps.toList → DefOk base ρ w ds → base ≤ w.heap.size → (ro = none ∨ rnd = true) →
  Runs P base fn kind ro cs (lone (fr8 fn tmps (.code c' :: .inLoop c' :: k) ds kind ro) cs w) k ρ w e (fillK n (keep.at_ e) vals') s'

section
variable {P : Program} {fn : FuncId} {tmps : Array Value} {k : List Item} {ds : List Deferred} {kind : CallKind} {cs : List Frame} {w : World}

theorem run_getLoop {R : Nat} {r : Loop} (h : w.heap[R]? = some (.loop r)) : (Instr.getLoop R).run P w = .ok r w := by
  simp [Instr.getLoop, getObj, Sem.run, h]
theorem run_setObj {R : Nat} {r : Loop} (h : w.heap[R]? = some (.loop r)) (o : Obj) : (setObj R o).run P w = .ok () { w with heap := w.heap.setIfInBounds R o } := by
  simp [setObj, Sem.run, h]

theorem st_rangeFunc {f : Operand} {params : Array Tmp} {assign body : Code} {g : FuncId} {fs cps : Array Value} (hf : evT tmps f = .func (.func g) fs cps) (hb : okBody P g = true) :
    step P (lone (fr8 fn tmps (.code (.rangeFunc f params assign body) :: k) ds kind none) cs w) =
      .next (lone (Frame.enter P g (fs ++ #[.func (.yield (w.heap.size + 1)) #[] #[]] ++ cps) .normal) (fr8 fn tmps (.inRangeFunc (w.heap.size + 1) :: k) (coll w.heap.size :: ds) kind none :: cs)
        ((w.alloc (.deferred (some []))).alloc (.loop { state := .ready, pending := none, fn, tmps, params, assign, body, defers := w.heap.size }))) := by
  refine step_lone_go ?_
  have hev := congrFun (eval_fr8 (fn := fn) (tmps := tmps) (ds := coll w.heap.size :: ds) (kind := kind) (ro := none) (.inRangeFunc (w.heap.size + 1) :: k)) f
  rw [hf] at hev
  have hen : (Instr.enterLoop fn tmps params assign body none).run P w = .ok (w.heap.size + 1, [coll w.heap.size]) ((w.alloc (.deferred (some []))).alloc (.loop { state := .ready, pending := none, fn, tmps, params, assign, body, defers := w.heap.size })) := by
    simp [Instr.enterLoop, coll]
  have hcall := run_callFunc (P := P) (w := (w.alloc (.deferred (some []))).alloc (.loop { state := .ready, pending := none, fn, tmps, params, assign, body, defers := w.heap.size })) (args := fs ++ #[.func (.yield (w.heap.size + 1)) #[] #[]] ++ cps) hb
  simp only [fr8] at hev ⊢
  simp only [stepG, stepG.exec, Sem.runT_eq, hen, List.cons_append, List.nil_append]
  have hres : (resolve ({ fn := fn, tmps := tmps, todo := .inRangeFunc (w.heap.size + 1) :: k, defers := coll w.heap.size :: ds, mode := .run, kind := kind } : Frame).eval { callee := .value f, args := #[.const (.func (.yield (w.heap.size + 1)) #[] #[])], argTypes := #[] } 0) =
      (pure { target := .fn (.func g) cps, args := fs ++ #[.func (.yield (w.heap.size + 1)) #[] #[]] } : Sem Deferred) := by
    have hk : ∀ v, ({ fn := fn, tmps := tmps, todo := .inRangeFunc (w.heap.size + 1) :: k, defers := coll w.heap.size :: ds, mode := .run, kind := kind } : Frame).eval (.const v) = v := fun _ => rfl
    simp only [resolve, hev, Deferred.ofValue, List.map_toArray, List.map_cons, List.map_nil, hk]
  have hrun : (do let d ← resolve ({ fn := fn, tmps := tmps, todo := .inRangeFunc (w.heap.size + 1) :: k, defers := coll w.heap.size :: ds, mode := .run, kind := kind } : Frame).eval { callee := .value f, args := #[.const (.func (.yield (w.heap.size + 1)) #[] #[])], argTypes := #[] } 0; invoke d.target d.args).run P ((w.alloc (.deferred (some []))).alloc (.loop { state := .ready, pending := none, fn, tmps, params, assign, body, defers := w.heap.size })) =
      .ok (.enter g (fs ++ #[.func (.yield (w.heap.size + 1)) #[] #[]] ++ cps)) ((w.alloc (.deferred (some []))).alloc (.loop { state := .ready, pending := none, fn, tmps, params, assign, body, defers := w.heap.size })) := by
    rw [hres]
    simp only [pure_bind, invoke]
    exact hcall
  simp only [stepG.apply, if_true, Sem.runT_eq, hrun]
  simp

theorem st_endRangeFunc {l : Nat} {r : Loop} (h : w.heap[l]? = some (.loop r)) (hs : r.state ≠ .busy) :
    step P (lone (fr8 fn tmps (.endRangeFunc l :: k) ds kind none) cs w) = .next (lone (fr8 fn tmps ((r.pending.map Item.code).toList ++ k) ds kind none) cs { w with heap := w.heap.setIfInBounds l (.loop { r with state := .exhausted }) }) := by
  refine step_lone_go ?_
  have hen : (Instr.endLoop l).run P w = .ok r.pending { w with heap := w.heap.setIfInBounds l (.loop { r with state := .exhausted }) } := by
    simp [Instr.endLoop, run_getLoop h, hs, run_setObj h]
  simp only [fr8]
  simp [stepG, stepG.exec, hen]

theorem st_beginRound {R : Nat} {r : Loop} (h : w.heap[R]? = some (.loop r)) (hs : r.state = .ready) :
    step P (lone (fr8 fn tmps (.beginRound :: k) ds kind (some R)) cs w) = .next (lone (fr8 fn tmps k ds kind (some R)) cs { w with heap := w.heap.setIfInBounds R (.loop { r with state := .busy }) }) := by
  refine step_lone_go ?_
  have hb : (Instr.beginRound R).run P w = .ok () { w with heap := w.heap.setIfInBounds R (.loop { r with state := .busy }) } := by
    simp [Instr.beginRound, run_getLoop h, run_setObj h, hs]
  simp only [fr8]
  simp [stepG, stepG.exec, stepG.apply, hb, Frame.finish]

theorem run_endRound {R : Nat} {r : Loop} (h : w.heap[R]? = some (.loop r)) (j : Option Code) :
    (Instr.endRound R j).run P w = .ok (.bool j.isNone) { w with heap := w.heap.setIfInBounds R (.loop { r with state := if j.isNone then .ready else .done, pending := j }) } := by
  simp [Instr.endRound, run_getLoop h, run_setObj h]

theorem st_leave_end {R : Nat} {r : Loop} {C : Frame} (h : w.heap[R]? = some (.loop r)) :
    step P (lone (fr8 fn tmps [] ds .normal (some R)) (C :: cs) w) = .next (lone (C.finish (.bool true)) cs { w with heap := w.heap.setIfInBounds R (.loop { r with state := .ready, pending := none }) }) := by
  refine step_lone_go ?_
  have := run_endRound (P := P) h none
  simp only [Option.isNone_none, if_true] at this
  simp only [fr8]
  simp [stepG, stepG.exec, this, doReturn]
theorem st_leave_ret {R : Nat} {r : Loop} {C : Frame} (h : w.heap[R]? = some (.loop r)) :
    step P (lone (fr8 fn tmps (.code .ret :: k) ds .normal (some R)) (C :: cs) w) = .next (lone (C.finish (.bool false)) cs { w with heap := w.heap.setIfInBounds R (.loop { r with state := .done, pending := some .ret }) }) := by
  refine step_lone_go ?_
  have := run_endRound (P := P) h (some .ret)
  simp only [Option.isNone_some, Bool.false_eq_true, if_false] at this
  simp only [fr8]
  simp [stepG, stepG.exec, this, doReturn]
theorem st_leave_exit {R id : Nat} {r : Loop} {C : Frame} (h : w.heap[R]? = some (.loop r)) (hk : exitTo id k = none) :
    step P (lone (fr8 fn tmps (.code (.exit id) :: k) ds .normal (some R)) (C :: cs) w) = .next (lone (C.finish (.bool false)) cs { w with heap := w.heap.setIfInBounds R (.loop { r with state := .done, pending := some (.exit id) }) }) := by
  refine step_lone_go ?_
  have := run_endRound (P := P) h (some (.exit id))
  simp only [Option.isNone_some, Bool.false_eq_true, if_false] at this
  simp only [fr8]
  simp [stepG, stepG.exec, this, doReturn, hk]

end

theorem cd_pend {e : AExit} {c : Option Code} (h : PendRel (some e) c) : (e = .ret ∧ c = some .ret) ∨ ∃ id, e = .exit id ∧ c = some (.exit id) := by
  cases e with
  | normal => exact h.elim
  | ret => exact .inl ⟨rfl, h⟩
  | exit id => exact .inr ⟨id, rfl, h⟩

/-- Of a value, nothing need be known. -/
theorem any_rel (ρ : Rho) (v : Value) : VRel ρ anyA v := by simp [anyA, VRel]

theorem setAll_get (fr : List AVal) : ∀ (ts : List Nat) (g : List AVal), g.length = fr.length → (∀ (i : Nat) (a : AVal), g[i]? = some a → a = anyA ∨ fr[i]? = some a) →
    (setAll g ts (keepA ts fr)).length = fr.length ∧ ∀ (i : Nat) (a : AVal), (setAll g ts (keepA ts fr))[i]? = some a → a = anyA ∨ fr[i]? = some a
  | [], g, hl, h => by simpa [setAll] using ⟨hl, h⟩
  | t :: ts, g, hl, h => by
    simp only [keepA, List.map_cons, setAll]
    refine setAll_get fr ts _ (by simpa using hl) fun i a ha => ?_
    rw [List.getElem?_set] at ha
    split at ha
    · rename_i hti
      subst hti
      split at ha
      · rename_i hlt
        rw [hl] at hlt
        rw [List.getD_eq_getElem?_getD, List.getElem?_eq_getElem hlt] at ha
        simp only [Option.getD_some] at ha
        exact .inr (by rw [List.getElem?_eq_getElem hlt]; exact ha)
      · cases ha
    · exact h i a ha

theorem VRels.forget {ρ : Rho} {fr : List AVal} {vs : List Value} (h : VRels ρ fr vs) (keep : List Nat) : VRels ρ (fillK fr.length keep (keepA keep fr)) vs := by
  obtain ⟨h1, h2⟩ := setAll_get fr keep (List.replicate fr.length anyA) (by simp) fun i a ha => .inl (by
    rw [List.getElem?_replicate] at ha
    split at ha
    · exact (Option.some.inj ha).symm
    · cases ha)
  refine VRels.of_get (by rw [h.length]; exact h1.symm) fun i a v ha hv => ?_
  rcases h2 i a ha with rfl | h3
  · exact any_rel ρ v
  · obtain ⟨v', h4, h5⟩ := h.get i a h3
    rw [hv] at h4; cases h4; exact h5

/-- A piece of code. -/
theorem code_ok {P : Program} {H : Han} (hC : CallOk P H) (hR : RoundOk P H) (hL : LoopOk P H) :
    ∀ (c : Code) (hint : Nat → Nat) (kp : Nat → Keep) (pos : Nat) (rnd : Bool) (base : Nat) {ρ : Rho} {s : St} {w : World} {fr : List AVal} {tmps : Array Value} {e : AExit} {fr' : List AVal} {s' : St} (fn : FuncId) (k : List Item) (ds : List Deferred) (kind : CallKind) (ro : Option Nat) (cs : List Frame),
      evalCode H (cCode P hint kp rnd pos c) fr s = some (e, fr', s') → Sim P ρ s w → VRels ρ fr tmps.toList → DefOk base ρ w ds → base ≤ w.heap.size → (ro = none ∨ rnd = true) →
      Runs P base fn kind ro cs (lone (fr8 fn tmps (.code c :: k) ds kind ro) cs w) k ρ w e fr' s' := by
  intro c
  induction c with
  | skip =>
    intro hint kp pos rnd base ρ s w fr tmps e fr' s' fn k ds kind ro cs hev hs hv hd _ _
    simp only [cCode, evalCode, Option.some.injEq, Prod.mk.injEq] at hev
    obtain ⟨rfl, rfl, rfl⟩ := hev
    exact ⟨ρ, w, tmps, ds, hs, Fwd.refl ρ w, hv, hd, .one st_skip⟩
  | label l =>
    intro hint kp pos rnd base ρ s w fr tmps e fr' s' fn k ds kind ro cs hev hs hv hd _ _
    simp only [cCode, evalCode, Option.some.injEq, Prod.mk.injEq] at hev
    obtain ⟨rfl, rfl, rfl⟩ := hev
    exact ⟨ρ, w, tmps, ds, hs, Fwd.refl ρ w, hv, hd, .one st_label⟩
  | region id ops draw =>
    intro hint kp pos rnd base ρ s w fr tmps e fr' s' fn k ds kind ro cs hev hs hv hd _ _
    cases draw with
    | false =>
      simp only [cCode, evalCode] at hev
      split at hev
      · rename_i fr1 s1 hops
        cases hev
        obtain ⟨tmps', w', ρ', g1, g2, g3, g4⟩ := ops_run (ops := ops) (hint := hint) hC hR fn k ds kind ro cs ops.size 0 (by omega) (by simpa using hops) hs hv
        refine ⟨ρ', w', tmps', ds, g3, g4, g2, hd.fwd g4, ?_⟩
        refine .head st_region ?_
        rw [List.range_eq_range']
        exact g1.trans (.one st_region_end)
      · cases hev
    | true =>
      simp only [cCode] at hev
      split at hev
      · rename_i hc
        simp only [Bool.and_eq_true, Bool.or_eq_true] at hc
        simp only [evalCode] at hev
        split at hev
        · rename_i fr1 s1 hops
          cases hev
          rcases hc.2 with hc2 | hc2
          · obtain ⟨tmps', w', ρ', g1, g2, g3, g4⟩ := dops_run hC hR hc.1 hc2 hops hs hv fn id k ds kind ro cs
            exact ⟨ρ', w', tmps', ds, g3, g4, g2, hd.fwd g4, g1⟩
          · obtain ⟨tmps', w', ρ', g1, g2, g3, g4⟩ := dops_runA hC hR hc.1 hc2 hops hs hv fn id k ds kind ro cs
            exact ⟨ρ', w', tmps', ds, g3, g4, g2, hd.fwd g4, g1⟩
        · cases hev
      · simp [evalCode] at hev
  | seq a b iha ihb =>
    intro hint kp pos rnd base ρ s w fr tmps e fr' s' fn k ds kind ro cs hev hs hv hd hb hro
    simp only [cCode, evalCode] at hev
    split at hev
    · rename_i fr1 s1 ha
      obtain ⟨ρ1, w1, t1, d1, g1, g2, g3, g4, g5⟩ := iha hint kp (2 * pos) rnd base fn (.code b :: k) ds kind ro cs ha hs hv hd hb hro
      obtain ⟨ρ2, w2, t2, d2, f1, f2, f3, f4, f5⟩ := ihb hint kp (2 * pos + 1) rnd base fn k d1 kind ro cs hev g1 g3 g4 (Nat.le_trans hb g2.size) hro
      exact ⟨ρ2, w2, t2, d2, f1, g2.trans f2, f3, f4, Out.of_steps (.head st_seq g5) f5⟩
    · rename_i hn
      obtain ⟨ρ1, w1, t1, d1, g1, g2, g3, g4, g5⟩ := iha hint kp (2 * pos) rnd base fn (.code b :: k) ds kind ro cs hev hs hv hd hb hro
      refine ⟨ρ1, w1, t1, d1, g1, g2, g3, g4, Out.of_steps (.one st_seq) ?_⟩
      cases e with
      | normal => exact absurd hev (hn fr' s')
      | exit id => exact g5
      | ret => exact g5
  | cond c a b iha ihb =>
    intro hint kp pos rnd base ρ s w fr tmps e fr' s' fn k ds kind ro cs hev hs hv hd hb hro
    simp only [cCode] at hev
    split at hev
    · rename_i c' hc
      have hr : VRel ρ (c'.eval fr) (evT tmps c) := hop_of (fun t _ => hv.trel t) c' hc
      simp only [evalCode] at hev
      split at hev
      · rename_i ht
        rw [ht] at hr; simp only [VRel] at hr
        obtain ⟨ρ1, w1, t1, d1, g1, g2, g3, g4, g5⟩ := iha hint kp (2 * pos) rnd base fn k ds kind ro cs hev hs hv hd hb hro
        exact ⟨ρ1, w1, t1, d1, g1, g2, g3, g4, Out.of_steps (.one (st_cond hr)) g5⟩
      · rename_i ht
        rw [ht] at hr; simp only [VRel] at hr
        obtain ⟨ρ1, w1, t1, d1, g1, g2, g3, g4, g5⟩ := ihb hint kp (2 * pos + 1) rnd base fn k ds kind ro cs hev hs hv hd hb hro
        exact ⟨ρ1, w1, t1, d1, g1, g2, g3, g4, Out.of_steps (.one (st_cond hr)) g5⟩
      · cases hev
    · simp [evalCode] at hev
  | block id c ih =>
    intro hint kp pos rnd base ρ s w fr tmps e fr' s' fn k ds kind ro cs hev hs hv hd hb hro
    simp only [cCode, evalCode] at hev
    split at hev
    · rename_i i fr1 s1 hc
      obtain ⟨ρ1, w1, t1, d1, g1, g2, g3, g4, k', g5, g6⟩ := ih hint kp (2 * pos) rnd base fn (.inBlock id :: k) ds kind ro cs hc hs hv hd hb hro
      split at hev
      · rename_i hi
        cases hev
        refine ⟨ρ1, w1, t1, d1, g1, g2, g3, g4, ?_⟩
        have hk : exitTo i k' = some k := by rw [g5, hi]; simp [exitTo]
        exact .head st_block (g6.trans (.one (st_exit hk)))
      · rename_i hi
        cases hev
        refine ⟨ρ1, w1, t1, d1, g1, g2, g3, g4, k', ?_, .head st_block g6⟩
        rw [g5]
        have : (id == i) = false := by rw [beq_eq_false_iff_ne]; exact fun h => hi h.symm
        simp [exitTo, this]
    · rename_i hn
      obtain ⟨ρ1, w1, t1, d1, g1, g2, g3, g4, g5⟩ := ih hint kp (2 * pos) rnd base fn (.inBlock id :: k) ds kind ro cs hev hs hv hd hb hro
      refine ⟨ρ1, w1, t1, d1, g1, g2, g3, g4, ?_⟩
      cases e with
      | normal => exact .head st_block (Steps.trans g5 (.one st_inBlock))
      | exit i => exact absurd hev (hn i fr' s')
      | ret => obtain ⟨k', g5⟩ := g5; exact ⟨k', .head st_block g5⟩
  | loop c ih =>
    intro hint kp pos rnd base ρ s w fr tmps e fr' s' fn k ds kind ro cs hev hs hv hd hb hro
    simp only [cCode, evalCode] at hev
    split at hev
    · rename_i e1 vals s1 hl
      cases hev
      obtain ⟨ρ1, w1, t1, d1, g1, g2, g3, g4, g5⟩ := hL _ _ _ _ _ _ _ _ hl hint kp rnd (2 * pos) c rfl base ρ w tmps fn k ds kind ro cs hs (hv.forget _) hd hb hro
      exact ⟨ρ1, w1, t1, d1, g1, g2, g3, g4, Out.of_steps (.one st_loop) g5⟩
    · cases hev
  | rangeFunc f params assign body _ _ =>
    intro hint kp pos rnd base ρ s w fr tmps e fr' s' fn k ds kind ro cs hev hs hv hd hb hro
    simp only [cCode] at hev
    split at hev
    · simp [evalCode] at hev
    · rename_i hrnd
      have hro' : ro = none := by
        rcases hro with h | h
        · exact h
        · exact absurd h hrnd
      subst hro'
      split at hev
      · rename_i f' hf
        have hr : VRel ρ (f'.eval fr) (evT tmps f) := hop_of (fun t _ => hv.trel t) f' hf
        simp only [evalCode] at hev
        split at hev
        · rename_i g first cap hfe
          split at hev
          · rename_i hlt
            rw [hfe] at hr
            simp only [VRel] at hr
            obtain ⟨fs, cps, hfv, hfs, hcps⟩ := hr
            split at hev
            · cases hev
            · rename_i v0 s2 hcall
              simp only [one] at hcall
              split at hcall
              · rename_i e0 v1 s1 hH
                cases hcall
                have hmod : g % 4096 = g := Nat.mod_eq_of_lt hlt
                obtain ⟨hok, v2, hv2, hrun⟩ := hC _ _ _ _ _ _ hH
                cases hv2
                rw [hmod] at hok hrun
                -- the loop's record, on both sides
                have hs1 : Sim P ρ s (w.alloc (.deferred (some []))) := hs.alloc _
                have hf1 : Fwd ρ w ρ (w.alloc (.deferred (some []))) := Fwd.alloc ρ w _
                have hsz : (w.alloc (.deferred (some []))).heap.size = w.heap.size + 1 := size_alloc _ _
                have hs2 := hs1.push (a := .loop ⟨.ready, none, fr, params.toList, cCode P hint kp true (2 * pos) assign, cCode P hint kp true (2 * pos + 1) body⟩) (o := .loop { state := .ready, pending := none, fn, tmps, params, assign, body, defers := w.heap.size })
                  ⟨_, rfl, rfl, rfl, VRels.mono (Rho.le_bind (hs1.m_new (Nat.le_refl _))) _ _ hv, rfl, ⟨hint, kp, _, rfl⟩, ⟨hint, kp, _, rfl⟩⟩
                have hf2 := Fwd.push hs1 (.loop { state := .ready, pending := none, fn, tmps, params, assign, body, defers := w.heap.size })
                have hle := (hf1.trans hf2).le
                have hm0 : (ρ.bind s.n (w.alloc (.deferred (some []))).heap.size).m s.n = some (w.heap.size + 1) := by simp [Rho.bind, hsz]
                have hargs : VRels (ρ.bind s.n (w.alloc (.deferred (some []))).heap.size) (first ++ [.yld s.n] ++ cap) (fs.toList ++ [.func (.yield (w.heap.size + 1)) #[] #[]] ++ cps.toList) := by
                  refine ((VRels.mono hle _ _ hfs).append ?_).append (VRels.mono hle _ _ hcps)
                  simp only [VRels, VRel]
                  exact ⟨_, _, rfl, ⟨_, hm0, rfl⟩, rfl⟩
                obtain ⟨v', w3, ρ3, g1, g2, g3, g4⟩ := hrun _ _ _ hs2 hargs (fr8 fn tmps (.inRangeFunc (w.heap.size + 1) :: k) (coll w.heap.size :: ds) kind none) cs
                have hd0 : DefOk base (ρ.bind s.n (w.alloc (.deferred (some []))).heap.size) ((w.alloc (.deferred (some []))).alloc (.loop { state := .ready, pending := none, fn, tmps, params, assign, body, defers := w.heap.size })) (coll w.heap.size :: ds) := by
                  obtain ⟨rs, h1, h2, h3⟩ := hd
                  refine ⟨w.heap.size :: rs, by rw [h1]; rfl, List.nodup_cons.2 ⟨fun h => by have := (h3 _ h).2.1; omega, h2⟩, fun r hr => ?_⟩
                  rcases List.mem_cons.1 hr with rfl | hr
                  · refine ⟨hb, by rw [size_alloc, hsz]; omega, ?_, ?_⟩
                    · rw [heap_alloc_old (by omega)]; exact heap_alloc_new w _
                    · rintro (⟨b, hb'⟩ | ⟨p, r, hp, hr'⟩)
                      · simp only [Rho.bind] at hb'
                        split at hb'
                        · simp only [Option.some.injEq, hsz] at hb'; omega
                        · have := (hs.mlt b _ hb').2; omega
                      · have := (hs.plt p r hp).2; omega
                  · have hd' : DefOk base ρ w ds := ⟨rs, h1, h2, h3⟩
                    obtain ⟨q1, q2, q3, q4⟩ := h3 r hr
                    refine ⟨q1, by rw [size_alloc, hsz]; omega, ?_, fun ht => ?_⟩
                    · rw [heap_alloc_old (by omega), heap_alloc_old q2]; exact q3
                    · rcases (hf1.trans hf2).new r ht with h | h
                      · exact q4 h
                      · omega
                have hd3 := hd0.fwd g4
                have hfin : (fr8 fn tmps (.inRangeFunc (w.heap.size + 1) :: k) (coll w.heap.size :: ds) kind none).finish v' = fr8 fn tmps (.endRangeFunc (w.heap.size + 1) :: k) (coll w.heap.size :: ds) kind none := rfl
                rw [hfin] at g1
                have hm3 : ρ3.m s.n = some (w.heap.size + 1) := g4.le.m _ _ hm0
                split at hev
                · rename_i l hl
                  split at hev
                  · cases hev
                  · rename_i hbusy
                    obtain ⟨o', ho', r, hoe, q1, q2, q3, q4, q5, q6⟩ := g3.obj _ _ _ hm3 hl
                    subst hoe
                    have hstep := st_endRangeFunc (P := P) (fn := fn) (tmps := tmps) (k := k) (ds := coll w.heap.size :: ds) (kind := kind) (cs := cs) ho' (by rw [q1]; exact hbusy)
                    have hs4 := g3.put (w' := { w3 with heap := w3.heap.setIfInBounds (w.heap.size + 1) (.loop { r with state := .exhausted }) }) (a := .loop { l with state := .exhausted }) (o := .loop { r with state := .exhausted }) hm3 hl ⟨_, rfl, rfl, q2, q3, q4, q5, q6⟩ rfl
                    have hf4 : Fwd ρ3 w3 ρ3 { w3 with heap := w3.heap.setIfInBounds (w.heap.size + 1) (.loop { r with state := .exhausted }) } := Fwd.put hm3 rfl
                    have hall := ((hf1.trans hf2).trans g4).trans hf4
                    have hv4 := VRels.mono hall.le _ _ hv
                    have hst : Steps P (lone (fr8 fn tmps (.code (.rangeFunc f params assign body) :: k) ds kind none) cs w) (lone (fr8 fn tmps ((r.pending.map Item.code).toList ++ k) (coll w.heap.size :: ds) kind none) cs { w3 with heap := w3.heap.setIfInBounds (w.heap.size + 1) (.loop { r with state := .exhausted }) }) := by
                      refine .head (st_rangeFunc hfv hok) (Steps.trans ?_ (.one hstep))
                      have : (fs.toList ++ [Value.func (Fn.yield (w.heap.size + 1)) #[] #[]] ++ cps.toList).toArray = fs ++ #[.func (.yield (w.heap.size + 1)) #[] #[]] ++ cps := by apply Array.toList_inj.1; simp
                      rw [this] at g1
                      exact g1
                    cases hp : l.pending with
                    | none =>
                      rw [hp] at hev q2 hs4
                      simp only [PendRel] at q2
                      have hpd : (r.pending.map Item.code).toList ++ k = k := by rw [q2]; rfl
                      rw [hpd] at hst
                      cases hev
                      exact ⟨ρ3, _, tmps, _, hs4, hall, hv4, hd3.fwd hf4, hst⟩
                    | some e1 =>
                      rw [hp] at hev q2 hs4
                      cases hev
                      rcases cd_pend q2 with ⟨rfl, hc⟩ | ⟨id, rfl, hc⟩
                      · have hpd : (r.pending.map Item.code).toList ++ k = .code .ret :: k := by rw [hc]; rfl
                        rw [hpd] at hst
                        exact ⟨ρ3, _, tmps, _, hs4, hall, hv4, hd3.fwd hf4, k, hst⟩
                      · have hpd : (r.pending.map Item.code).toList ++ k = .code (.exit id) :: k := by rw [hc]; rfl
                        rw [hpd] at hst
                        exact ⟨ρ3, _, tmps, _, hs4, hall, hv4, hd3.fwd hf4, k, rfl, hst⟩
                · cases hev
              · cases hcall
          · cases hev
        · cases hev
      · simp [evalCode] at hev
  | exit id =>
    intro hint kp pos rnd base ρ s w fr tmps e fr' s' fn k ds kind ro cs hev hs hv hd _ _
    simp only [cCode, evalCode, Option.some.injEq, Prod.mk.injEq] at hev
    obtain ⟨rfl, rfl, rfl⟩ := hev
    exact ⟨ρ, w, tmps, ds, hs, Fwd.refl ρ w, hv, hd, k, rfl, .refl _ _⟩
  | scope c ih =>
    intro hint kp pos rnd base ρ s w fr tmps e fr' s' fn k ds kind ro cs hev hs hv hd hb hro
    simp only [cCode] at hev
    obtain ⟨ρ1, w1, t1, d1, g1, g2, g3, g4, g5⟩ := ih hint kp (2 * pos) rnd base fn (.inScope c :: k) ds kind ro cs hev hs hv hd hb hro
    refine ⟨ρ1, w1, t1, d1, g1, g2, g3, g4, Out.of_steps (.one st_scope) ?_⟩
    cases e with
    | normal => exact Steps.trans g5 (.one st_inScope)
    | exit id => exact g5
    | ret => exact g5
  | ret =>
    intro hint kp pos rnd base ρ s w fr tmps e fr' s' fn k ds kind ro cs hev hs hv hd _ _
    simp only [cCode, evalCode, Option.some.injEq, Prod.mk.injEq] at hev
    obtain ⟨rfl, rfl, rfl⟩ := hev
    exact ⟨ρ, w, tmps, ds, hs, Fwd.refl ρ w, hv, hd, k, .refl _ _⟩
  | goto l =>
    intro hint kp pos rnd base ρ s w fr tmps e fr' s' fn k ds kind ro cs hev
    simp [cCode, evalCode] at hev
  | refuse l =>
    intro hint kp pos rnd base ρ s w fr tmps e fr' s' fn k ds kind ro cs hev
    simp [cCode, evalCode] at hev
end Go.Proofs.Ytlhfeiacigmliaa
