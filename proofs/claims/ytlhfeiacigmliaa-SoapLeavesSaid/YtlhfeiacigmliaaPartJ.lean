/- From the evaluator to the rows: what a row gives, and what it wants. -/
import Derived.Test.YtlhfeiacigmliaaPartI
import Derived.Test.YtlhfeiacigmliaaRows
import Derived.ProofKit
set_option linter.all false
namespace Go.Proofs.Ytlhfeiacigmliaa
open Go Go.ChangeShapes Go.RowKit
set_option maxRecDepth 100000

theorem mapM_each {α β : Type} {f : α → Option β} : ∀ {l : List α} {ys : List β}, l.mapM f = some ys → ∀ a ∈ l, ∃ y, f a = some y
  | [], _, _, a, ha => by simp at ha
  | x :: l, ys, h, a, ha => by
    rw [List.mapM_cons] at h
    cases hx : f x with
    | none => rw [hx] at h; simp at h
    | some y =>
      rw [hx] at h
      cases hl : l.mapM f with
      | none => rw [hl] at h; simp at h
      | some zs =>
        simp only [List.mem_cons] at ha
        rcases ha with rfl | ha
        · exact ⟨y, hx⟩
        · exact mapM_each hl a ha
section
variable {H : Type} {enc : TypeId × Value → H} {P : Program} {w : World}
abbrev trd (enc : TypeId × Value → H) (P : Program) (w : World) (fuel : Nat) (t : TypeId) (cs : List Value) : Option (DataW H × List MemPlace) := DataW.trod enc P w 0 (fun _ => true) true fuel t cs
theorem trd_struct {t : TypeId} {fs : Array Field} (hu : P.underlying t = some (.struct fs)) {fuel : Nat} {cs : List Value} {x : DataW H × List MemPlace} (h : trd enc P w fuel t cs = some x) :
    cs.length = P.cellsOf t ∧ ∃ fuel', ∀ f ∈ fs.toList, ∃ y, trd enc P w fuel' f.type ((cs.drop f.offset).take (P.cellsOf f.type)) = some y := by
  cases fuel with
  | zero => simp [trd, DataW.trod] at h
  | succ fuel =>
    simp only [trd, DataW.trod, hu] at h
    split at h
    · rename_i hl
      refine ⟨hl, fuel, fun f hf => ?_⟩
      rw [Option.map_eq_some_iff] at h
      obtain ⟨ys, h1, _⟩ := h
      exact mapM_each h1 f hf
    · cases h
theorem trd_slice {t e : TypeId} (hu : P.underlying t = some (.slice e)) {fuel : Nat} {cs : List Value} {x : DataW H × List MemPlace} (h : trd enc P w fuel t cs = some x) :
    cs = [.slice none 0 0] ∨ ∃ a len cap, cs = [.slice (some a) len cap] ∧ len ≤ cap ∧ ∃ fuel', ∀ i, i < len → ∃ row y, w.cells? 0 (a.add (i * P.cellsOf e)) (P.cellsOf e) = some row ∧ trd enc P w fuel' e row = some y := by
  cases fuel with
  | zero => simp [trd, DataW.trod] at h
  | succ fuel =>
    unfold trd DataW.trod at h
    rw [hu] at h
    rcases cs with _ | ⟨v, _ | ⟨v2, r⟩⟩
    · cases h
    · cases v with
      | slice o len cap =>
        cases o with
        | none =>
          left
          cases len with
          | zero =>
            cases cap with
            | zero => rfl
            | succ n => cases h
          | succ n => cases h
        | some a =>
          right
          simp only at h
          split at h
          · rename_i hc
            refine ⟨a, len, cap, rfl, hc.2.1, fuel, fun i hi => ?_⟩
            cases he : (List.range len).mapM fun i => (w.cells? 0 (a.add (i * P.cellsOf e)) (P.cellsOf e)).bind (DataW.trod enc P w 0 (fun _ => true) true fuel e) with
            | none => rw [he] at h; cases h
            | some ys =>
              obtain ⟨y, hy⟩ := mapM_each he i (by simpa using hi)
              rw [Option.bind_eq_some_iff] at hy
              obtain ⟨row, h1, h2⟩ := hy
              exact ⟨row, y, h1, h2⟩
          · cases h
      | _ => cases h
    · cases v with
      | slice o len cap =>
        cases o with
        | none =>
          cases len with
          | zero => cases cap <;> cases h
          | succ n => cases h
        | some a => cases h
      | _ => cases h
def Flat (enc : TypeId × Value → H) (P : Program) (w : World) (t : TypeId) (k : Nat) : Prop := ∀ fuel cs x, trd enc P w fuel t cs = some x → cs.length = k ∧ ∀ v ∈ cs, ∃ n : Int, v = .int .i64 n
theorem flat_int {t : TypeId} (hu : P.underlying t = some (.int .i64)) : Flat enc P w t 1 := by
  intro fuel cs x h
  cases fuel with
  | zero => simp [trd, DataW.trod] at h
  | succ fuel =>
    unfold trd DataW.trod at h
    rw [hu] at h
    rcases cs with _ | ⟨v, _ | ⟨v2, r⟩⟩
    · cases h
    · cases v with
      | int k n =>
        simp only at h
        split at h
        · rename_i hc
          obtain ⟨rfl, _⟩ := hc
          exact ⟨rfl, fun v hv => ⟨n, by simpa using hv⟩⟩
        · cases h
      | _ => cases h
    · cases v <;> cases h
/-- A structure of two or three fields that lie one behind the other. -/
theorem flat_two {t t0 t1 : TypeId} {k0 k1 : Nat} {fs : Array Field} (hu : P.underlying t = some (.struct fs)) {f0 f1 : Field} (hf : fs.toList = [f0, f1]) (h0 : f0.type = t0 ∧ f0.offset = 0 ∧ P.cellsOf t0 = k0) (h1 : f1.type = t1 ∧ f1.offset = k0 ∧ P.cellsOf t1 = k1)
    (hc : P.cellsOf t = k0 + k1) (F0 : Flat enc P w t0 k0) (F1 : Flat enc P w t1 k1) : Flat enc P w t (k0 + k1) := by
  intro fuel cs x h
  obtain ⟨hl, fuel', he⟩ := trd_struct hu h
  rw [hc] at hl
  rw [hf] at he
  obtain ⟨rfl, o0, c0⟩ := h0
  obtain ⟨rfl, o1, c1⟩ := h1
  obtain ⟨y0, g0⟩ := he f0 (by simp)
  obtain ⟨y1, g1⟩ := he f1 (by simp)
  rw [o0, c0, List.drop_zero] at g0
  rw [o1, c1, List.take_of_length_le (by simp; omega)] at g1
  obtain ⟨_, a0⟩ := F0 _ _ _ g0
  obtain ⟨_, a1⟩ := F1 _ _ _ g1
  refine ⟨hl, fun v hv => ?_⟩
  rw [← List.take_append_drop k0 cs, List.mem_append] at hv
  rcases hv with hv | hv
  · exact a0 v hv
  · exact a1 v hv
theorem flat_three {t t0 t1 t2 : TypeId} {k0 k1 k2 : Nat} {fs : Array Field} (hu : P.underlying t = some (.struct fs)) {f0 f1 f2 : Field} (hf : fs.toList = [f0, f1, f2]) (h0 : f0.type = t0 ∧ f0.offset = 0 ∧ P.cellsOf t0 = k0) (h1 : f1.type = t1 ∧ f1.offset = k0 ∧ P.cellsOf t1 = k1)
    (h2 : f2.type = t2 ∧ f2.offset = k0 + k1 ∧ P.cellsOf t2 = k2) (hc : P.cellsOf t = k0 + k1 + k2) (F0 : Flat enc P w t0 k0) (F1 : Flat enc P w t1 k1) (F2 : Flat enc P w t2 k2) : Flat enc P w t (k0 + k1 + k2) := by
  intro fuel cs x h
  obtain ⟨hl, fuel', he⟩ := trd_struct hu h
  rw [hc] at hl
  rw [hf] at he
  obtain ⟨rfl, o0, c0⟩ := h0
  obtain ⟨rfl, o1, c1⟩ := h1
  obtain ⟨rfl, o2, c2⟩ := h2
  obtain ⟨y0, g0⟩ := he f0 (by simp)
  obtain ⟨y1, g1⟩ := he f1 (by simp)
  obtain ⟨y2, g2⟩ := he f2 (by simp)
  rw [o0, c0, List.drop_zero] at g0
  rw [o1, c1] at g1
  rw [o2, c2, List.take_of_length_le (by simp; omega)] at g2
  obtain ⟨_, a0⟩ := F0 _ _ _ g0
  obtain ⟨_, a1⟩ := F1 _ _ _ g1
  obtain ⟨_, a2⟩ := F2 _ _ _ g2
  refine ⟨hl, fun v hv => ?_⟩
  rw [← List.take_append_drop k0 cs, List.mem_append] at hv
  rcases hv with hv | hv
  · exact a0 v hv
  · rw [← List.take_append_drop k1 (cs.drop k0), List.mem_append, List.drop_drop] at hv
    rcases hv with hv | hv
    · exact a1 v hv
    · exact a2 v hv
/-- The cells of a slice of such things. -/
theorem slice_vals {t e : TypeId} {k : Nat} (hu : P.underlying t = some (.slice e)) (hk : P.cellsOf e = k) (F : Flat enc P w e k) {fuel : Nat} {v : Value} {x : DataW H × List MemPlace} (h : trd enc P w fuel t [v] = some x)
    (hs : ∀ a len cap, v = .slice (some a) len cap → a.spot = none) : ∃ (len : Nat) (vals : Nat → Int), VRel (rho0 w) (.vsl ((List.range (len * k)).map fun j => i64 (vals j)) len .no) v := by
  rcases trd_slice hu h with h | ⟨a, len, cap, h, hlc, fuel', he⟩
  · simp only [List.cons.injEq, and_true] at h
    subst h
    refine ⟨0, fun _ => 0, ?_⟩
    rw [Nat.zero_mul]
    exact Or.inl ⟨rfl, rfl, fun p hp => (by cases hp), rfl⟩
  · simp only [List.cons.injEq, and_true] at h
    have hsp := hs a len cap h
    subst h
    obtain ⟨R, off, sp⟩ := a
    simp only at hsp
    subst hsp
    have hcell : ∀ j, ∃ n : Int, j < len * k → w.cell? ⟨R, off + j, none⟩ = some (.int .i64 n) := by
      intro j
      by_cases hj : j < len * k
      · have hk0 : 0 < k := by
          rcases Nat.eq_zero_or_pos k with h | h
          · subst h; simp at hj
          · exact h
        obtain ⟨row, y, g1, g2⟩ := he (j / k) (Nat.div_lt_of_lt_mul (by rw [Nat.mul_comm]; exact hj))
        rw [hk] at g1
        obtain ⟨_, hrl, hrc⟩ := World.cells?_some g1
        obtain ⟨_, ha⟩ := F _ _ _ g2
        have hm : j % k < k := Nat.mod_lt _ hk0
        have hrow : row[j % k]? = some (row[j % k]'(by omega)) := List.getElem?_eq_getElem _
        obtain ⟨n, hn⟩ := ha _ (List.getElem_mem (l := row) (n := j % k) (by omega))
        refine ⟨n, fun _ => ?_⟩
        have := hrc (j % k) hm
        rw [hrow, hn] at this
        rw [← this]
        congr 1
        have hdm := Nat.div_add_mod' j k
        generalize j / k * k = u at hdm
        generalize j % k = z at hdm
        simp only [Addr.add]
        split <;> split <;> simp <;> omega
      · exact ⟨0, fun h => absurd h hj⟩
    refine ⟨len, fun j => (hcell j).choose, Or.inr ⟨R, off, cap, rfl, hlc, IRel.of_get fun i a ha => ?_, trivial⟩⟩
    have hi : i < len * k := by
      rcases Nat.lt_or_ge i (len * k) with h | h
      · exact h
      · rw [List.getElem?_eq_none (by simpa using h)] at ha; cases ha
    rw [List.getElem?_map, List.getElem?_range hi] at ha
    simp only [Option.map_some, Option.some.injEq] at ha
    subst ha
    exact ⟨_, (hcell i).choose_spec hi, rfl, rfl⟩
theorem cells_range {α : Type} {f : α → List AVal} {k : Nat} {mk : Nat → α} {vals : Nat → Int} (hf : ∀ i, f (mk i) = (List.range k).map fun j => i64 (vals (i * k + j))) (n : Nat) : cellsOf f ((List.range n).map mk) = (List.range (n * k)).map fun j => i64 (vals j) := by
  induction n with
  | zero => simp [cells_nil]
  | succ n ih =>
    rw [List.range_succ, List.map_append, cells_append, ih, Nat.add_mul, Nat.one_mul, List.range_add, List.map_append]
    congr 1
    simp only [List.map_cons, List.map_nil, cells_cons, cells_nil, List.append_nil, hf, List.map_map]
    rfl
end

section
variable {H : Type} {enc : TypeId × Value → H} {w : World}
theorem c3 : Try.prog.cellsOf 3 = 1 := by kernel_rfl
theorem c46 : Try.prog.cellsOf 46 = 2 := by kernel_rfl
theorem c85 : Try.prog.cellsOf 85 = 4 := by kernel_rfl
theorem c88 : Try.prog.cellsOf 88 = 3 := by kernel_rfl
theorem c22 : Try.prog.cellsOf 22 = 1 := by kernel_rfl
theorem c23 : Try.prog.cellsOf 23 = 1 := by kernel_rfl
theorem c25 : Try.prog.cellsOf 25 = 3 := by kernel_rfl
theorem F3 : Flat enc Try.prog w 3 1 := flat_int Try.underlying3
theorem F46 : Flat enc Try.prog w 46 2 := flat_two Try.underlying46 rfl ⟨rfl, rfl, c3⟩ ⟨rfl, rfl, c3⟩ c46 F3 F3
theorem F85 : Flat enc Try.prog w 85 4 := flat_three Try.underlying85 rfl ⟨rfl, rfl, c3⟩ ⟨rfl, rfl, c3⟩ ⟨rfl, rfl, c46⟩ c85 F3 F3 F46
theorem F88 : Flat enc Try.prog w 88 3 := flat_two Try.underlying88 rfl ⟨rfl, rfl, c3⟩ ⟨rfl, rfl, c46⟩ c88 F3 F46
theorem spot_of_ok {P : Program} {base : Nat} {t e : TypeId} {v : Value} (hu : P.underlying t = some (.slice e)) (h : Cell.okWide P w .any base t v) : ∀ a len cap, v = .slice (some a) len cap → a.spot = none := by
  rintro a len cap rfl
  unfold Cell.okWide at h
  rw [hu] at h
  unfold Cell.ok at h
  rw [hu] at h
  exact h.2.2.2.1
theorem rel_ents {t : TypeId} (hu : Try.prog.underlying t = some (.slice 85)) {fuel : Nat} {v : Value} {x : DataW H × List MemPlace} (h : trd enc Try.prog w fuel t [v] = some x) (hs : ∀ a len cap, v = .slice (some a) len cap → a.spot = none) : ∃ l : List Ent, VRel (rho0 w) (sl cE l) v := by
  obtain ⟨len, vals, hv⟩ := slice_vals hu c85 F85 h hs
  refine ⟨(List.range len).map fun i => ⟨vals (i * 4 + 0), vals (i * 4 + 1), ⟨vals (i * 4 + 2), vals (i * 4 + 3)⟩⟩, ?_⟩
  have hc := cells_range (f := cE) (k := 4) (mk := fun i => ⟨vals (i * 4 + 0), vals (i * 4 + 1), ⟨vals (i * 4 + 2), vals (i * 4 + 3)⟩⟩) (vals := vals) (fun i => rfl) len
  rw [← hc] at hv
  simpa [sl, lenOf] using hv
theorem rel_says {t : TypeId} (hu : Try.prog.underlying t = some (.slice 88)) {fuel : Nat} {v : Value} {x : DataW H × List MemPlace} (h : trd enc Try.prog w fuel t [v] = some x) (hs : ∀ a len cap, v = .slice (some a) len cap → a.spot = none) : ∃ l : List Say, VRel (rho0 w) (sl cS l) v := by
  obtain ⟨len, vals, hv⟩ := slice_vals hu c88 F88 h hs
  refine ⟨(List.range len).map fun i => ⟨vals (i * 3 + 0), ⟨vals (i * 3 + 1), vals (i * 3 + 2)⟩⟩, ?_⟩
  have hc := cells_range (f := cS) (k := 3) (mk := fun i => ⟨vals (i * 3 + 0), ⟨vals (i * 3 + 1), vals (i * 3 + 2)⟩⟩) (vals := vals) (fun i => rfl) len
  rw [← hc] at hv
  simpa [sl, lenOf] using hv
theorem rel_slate {base : Nat} {v : Value} {d : DataW H} {p : List MemPlace} (hok : Value.okWide Try.prog w .any base 25 v) (h : DataW.Trod enc Try.prog w 0 (fun _ => true) true 25 v d p) : ∃ S : Slate, VRel (rho0 w) (vSl S) v := by
  obtain ⟨fuel, h⟩ := h
  unfold Value.okWide at hok
  rw [Try.underlying25] at hok
  obtain ⟨cs, rfl, hsz, ts, hts, _, hrow⟩ := hok
  rw [c25] at hsz
  have hts' : Try.prog.cellTypes Try.prog.depth 25 = some [3, 22, 23] := by kernel_rfl
  rw [hts'] at hts
  cases hts
  obtain ⟨l⟩ := cs
  simp only [List.size_toArray] at hsz
  match l, hsz with
  | [x0, x1, x2], _ =>
    obtain ⟨_, fuel', he⟩ := trd_struct Try.underlying25 h
    simp only [Value.cells, List.mem_cons, List.not_mem_nil, or_false, forall_eq_or_imp, forall_eq, c3, c22, c23] at he
    obtain ⟨⟨y0, h0⟩, ⟨y1, h1⟩, ⟨y2, h2⟩⟩ := he
    obtain ⟨_, a0⟩ := F3 _ _ _ h0
    obtain ⟨n, hn⟩ := a0 x0 (by simp)
    obtain ⟨u1, e1, o1⟩ := hrow 1 x1 rfl
    obtain ⟨u2, e2, o2⟩ := hrow 2 x2 rfl
    cases e1; cases e2
    obtain ⟨es, r1⟩ := rel_ents Try.underlying22 h1 (spot_of_ok Try.underlying22 o1)
    obtain ⟨ss, r2⟩ := rel_says Try.underlying23 h2 (spot_of_ok Try.underlying23 o2)
    refine ⟨⟨n, es, ss⟩, _, rfl, x0, [x1, x2], rfl, by subst hn; rfl, hn, x1, [x2], rfl, ?_, r1, x2, [], rfl, ?_, r2, rfl⟩
    · rcases r1 with ⟨_, _, _, h⟩ | ⟨_, _, _, h, _⟩ <;> rw [h] <;> rfl
    · rcases r2 with ⟨_, _, _, h⟩ | ⟨_, _, _, h, _⟩ <;> rw [h] <;> rfl

theorem stays_all {P : Program} (hl : laidOutB P = true) {W W' : World} {sp : Nat → Bool} : ∀ {ts : List TypeId} {vs : List Value} {ds : List (DataW H)} {ps : List MemPlace}, (∀ t ∈ ts, P.readableRec t = true ∧ t < P.types.size) →
    DataW.TrodAll enc P W 0 (fun _ => true) true ts vs ds ps → (∀ p ∈ ps, W.sameAt W' p) → (∀ p ∈ ps, sp p.block = true) → DataW.TrodAll enc P W' 0 sp true ts vs ds ps
  | [], vs, ds, ps, _, h, _, _ => by
    cases vs <;> cases ds <;> simp_all [DataW.TrodAll]
  | t :: ts, vs, ds, ps, hr, h, hs, hp => by
    obtain ⟨v, vs', d, ds', p, q, rfl, rfl, rfl, hd, hrest⟩ := trodAll_cons h
    obtain ⟨r1, r2⟩ := hr t (by simp)
    exact ⟨p, q, Go.WideElems.Trod_stays hl r1 r2 hd (fun x hx => hs x (by simp [hx])) (fun x hx => hp x (by simp [hx])), stays_all hl (fun t ht => hr t (by simp [ht])) hrest (fun x hx => hs x (by simp [hx])) (fun x hx => hp x (by simp [hx])), rfl⟩
theorem laid : laidOutB Try.prog = true := by kernel_rfl
theorem shut_true {f : Func} {s : ChangeSpec} {W W' : World} {args : Array Value} {ds : List (DataW H)} {before : List MemPlace} {ρ' : Rho} (hW : DataW.Whole enc Try.prog f.params.toList s.vars false W args.toList ds [] before) (hv : s.vars = [])
    (hr : f.resultTypes.toList = [4]) (hrd : ∀ t ∈ f.params.toList, Try.prog.readableRec t = true ∧ t < Try.prog.types.size) (h1 : (s.fn H (ds ++ [])).results = [.lit (.bool true)]) (h2 : (s.fn H (ds ++ [])).args = ds) (h3 : (s.fn H (ds ++ [])).vars = [])
    (hF : Fwd (rho0 W) W ρ' W') : s.post enc Try.prog f false true false false W args (.bool true) W' := by
  have hb : ∀ R, R < W.heap.size → W'.heap[R]? = W.heap[R]? := fun R hR => hF.kept R hR (by
    rintro (⟨b, hb⟩ | ⟨p, r, hp, _⟩)
    · cases hb
    · cases hp)
  have hlt := hW.lt
  have hW0 := hW
  obtain ⟨p, q, hA, hV, rfl, _, _⟩ := hW0
  rw [hv] at hV
  obtain ⟨_, rfl⟩ := trodVars_none hV
  rw [List.append_nil] at hlt
  have hargs : DataW.TrodAll enc Try.prog W' 0 (fun b => decide (b < W.heap.size)) true f.params.toList args.toList ds p := by
    refine stays_all laid hrd hA (fun x hx => ?_) (fun x hx => by simpa using hlt x hx)
    cases x with
    | cell b o => exact World.cell?_of_block (w := W) (hb b (hlt _ hx))
    | map b => exact hb b (hlt _ hx)
  have hrs : f.resultTypes.size = 1 := by rw [← Array.length_toList, hr]; rfl
  refine ⟨ds, [], _, [], p, [], hW, ?_, ?_, ?_, ⟨hF.os, hF.output, fun i hi => ?_⟩, fun h => by cases h⟩
  · rw [h1, hr, hrs]
    refine trodAll_mk1 ⟨1, ?_⟩
    simp [DataW.trod, Try.underlying4, Value.cells]
  · rw [h2]; exact hargs
  · rw [h3, hv]; rfl
  · rw [hb i hi]; split <;> simp_all
end
theorem thin_len {S : Slate} (h : thin S = true) : S.es.length ≤ 8 ∧ S.ss.length ≤ 7 := by
  unfold thin at h
  simp only [Bool.and_eq_true, Bool.not_eq_true', Bool.or_eq_false_iff, decide_eq_false_iff_not] at h
  obtain ⟨⟨h1, h2⟩, _⟩ := h
  unfold lenOf at h1 h2
  omega
end Go.Proofs.Ytlhfeiacigmliaa
