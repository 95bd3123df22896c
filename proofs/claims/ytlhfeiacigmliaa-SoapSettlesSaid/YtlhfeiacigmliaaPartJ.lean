/- From the evaluator to the rows: what a row gives, and what it wants. -/
import Derived.Test.YtlhfeiacigmliaaPartI
import Derived.Test.YtlhfeiacigmliaaRows
import Derived.ProofKit
import Derived.Test.YtlhfeiacigmliaaPartH
set_option linter.all false
namespace Go.Proofs.Ytlhfeiacigmliaa
open Go Go.ChangeShapes Go.RowKit
set_option maxRecDepth 100000

def rho0 (W : World) : Rho := ⟨fun _ => none, fun R off => W.cell? ⟨R, off, none⟩, fun _ => none⟩
theorem sim0 (P : Program) (W : World) : Sim P (rho0 W) St.empty W where
  inj _ _ _ h := by cases h
  mlt _ _ h := by cases h
  obj _ _ _ h := by cases h
  imm _ _ _ h := h
  free _ _ h := by cases h
  plt _ _ h := by cases h
  ver _ _ h := by cases h
  pnm _ _ _ h := by cases h
  room _ _ _ h := by cases h
  apart _ _ _ _ _ _ h := by cases h

theorem mapM_each {α β : Type} {f : α → Option β} : ∀ {l : List α} {ys : List β}, l.mapM f = some ys → ∀ a ∈ l, ∃ y, f a = some y
  | [], _, _, a, ha => by simp at ha
  | x :: l, ys, h, a, ha => by
    rw [List.mapM_cons] at h
    cases hx : f x with
    | none => rw [hx] at h; simp at h
    | some y =>
      rw [hx] at h
      cases hl : l.mapM f with
      | none => rw [hl] at h; simp at h
      | some zs =>
        simp only [List.mem_cons] at ha
        rcases ha with rfl | ha
        · exact ⟨y, hx⟩
        · exact mapM_each hl a ha
section
variable {H : Type} {enc : TypeId × Value → H} {P : Program} {w : World}
abbrev trd (enc : TypeId × Value → H) (P : Program) (w : World) (fuel : Nat) (t : TypeId) (cs : List Value) : Option (DataW H × List MemPlace) := DataW.trod enc P w 0 (fun _ => true) true fuel t cs
theorem trd_struct {t : TypeId} {fs : Array Field} (hu : P.underlying t = some (.struct fs)) {fuel : Nat} {cs : List Value} {x : DataW H × List MemPlace} (h : trd enc P w fuel t cs = some x) :
    cs.length = P.cellsOf t ∧ ∃ fuel', ∀ f ∈ fs.toList, ∃ y, trd enc P w fuel' f.type ((cs.drop f.offset).take (P.cellsOf f.type)) = some y := by
  cases fuel with
  | zero => simp [trd, DataW.trod] at h
  | succ fuel =>
    simp only [trd, DataW.trod, hu] at h
    split at h
    · rename_i hl
      refine ⟨hl, fuel, fun f hf => ?_⟩
      rw [Option.map_eq_some_iff] at h
      obtain ⟨ys, h1, _⟩ := h
      exact mapM_each h1 f hf
    · cases h
theorem trd_slice {t e : TypeId} (hu : P.underlying t = some (.slice e)) {fuel : Nat} {cs : List Value} {x : DataW H × List MemPlace} (h : trd enc P w fuel t cs = some x) :
    cs = [.slice none 0 0] ∨ ∃ a len cap, cs = [.slice (some a) len cap] ∧ len ≤ cap ∧ ∃ fuel', ∀ i, i < len → ∃ row y, w.cells? 0 (a.add (i * P.cellsOf e)) (P.cellsOf e) = some row ∧ trd enc P w fuel' e row = some y := by
  cases fuel with
  | zero => simp [trd, DataW.trod] at h
  | succ fuel =>
    unfold trd DataW.trod at h
    rw [hu] at h
    rcases cs with _ | ⟨v, _ | ⟨v2, r⟩⟩
    · cases h
    · cases v with
      | slice o len cap =>
        cases o with
        | none =>
          left
          cases len with
          | zero =>
            cases cap with
            | zero => rfl
            | succ n => cases h
          | succ n => cases h
        | some a =>
          right
          simp only at h
          split at h
          · rename_i hc
            refine ⟨a, len, cap, rfl, hc.2.1, fuel, fun i hi => ?_⟩
            cases he : (List.range len).mapM fun i => (w.cells? 0 (a.add (i * P.cellsOf e)) (P.cellsOf e)).bind (DataW.trod enc P w 0 (fun _ => true) true fuel e) with
            | none => rw [he] at h; cases h
            | some ys =>
              obtain ⟨y, hy⟩ := mapM_each he i (by simpa using hi)
              rw [Option.bind_eq_some_iff] at hy
              obtain ⟨row, h1, h2⟩ := hy
              exact ⟨row, y, h1, h2⟩
          · cases h
      | _ => cases h
    · cases v with
      | slice o len cap =>
        cases o with
        | none =>
          cases len with
          | zero => cases cap <;> cases h
          | succ n => cases h
        | some a => cases h
      | _ => cases h
def Flat (enc : TypeId × Value → H) (P : Program) (w : World) (t : TypeId) (k : Nat) : Prop := ∀ fuel cs x, trd enc P w fuel t cs = some x → cs.length = k ∧ ∀ v ∈ cs, ∃ n : Int, v = .int .i64 n
theorem flat_int {t : TypeId} (hu : P.underlying t = some (.int .i64)) : Flat enc P w t 1 := by
  intro fuel cs x h
  cases fuel with
  | zero => simp [trd, DataW.trod] at h
  | succ fuel =>
    unfold trd DataW.trod at h
    rw [hu] at h
    rcases cs with _ | ⟨v, _ | ⟨v2, r⟩⟩
    · cases h
    · cases v with
      | int k n =>
        simp only at h
        split at h
        · rename_i hc
          obtain ⟨rfl, _⟩ := hc
          exact ⟨rfl, fun v hv => ⟨n, by simpa using hv⟩⟩
        · cases h
      | _ => cases h
    · cases v <;> cases h
/-- A structure of two or three fields that lie one behind the other. -/
theorem flat_two {t t0 t1 : TypeId} {k0 k1 : Nat} {fs : Array Field} (hu : P.underlying t = some (.struct fs)) {f0 f1 : Field} (hf : fs.toList = [f0, f1]) (h0 : f0.type = t0 ∧ f0.offset = 0 ∧ P.cellsOf t0 = k0) (h1 : f1.type = t1 ∧ f1.offset = k0 ∧ P.cellsOf t1 = k1)
    (hc : P.cellsOf t = k0 + k1) (F0 : Flat enc P w t0 k0) (F1 : Flat enc P w t1 k1) : Flat enc P w t (k0 + k1) := by
  intro fuel cs x h
  obtain ⟨hl, fuel', he⟩ := trd_struct hu h
  rw [hc] at hl
  rw [hf] at he
  obtain ⟨rfl, o0, c0⟩ := h0
  obtain ⟨rfl, o1, c1⟩ := h1
  obtain ⟨y0, g0⟩ := he f0 (by simp)
  obtain ⟨y1, g1⟩ := he f1 (by simp)
  rw [o0, c0, List.drop_zero] at g0
  rw [o1, c1, List.take_of_length_le (by simp; omega)] at g1
  obtain ⟨_, a0⟩ := F0 _ _ _ g0
  obtain ⟨_, a1⟩ := F1 _ _ _ g1
  refine ⟨hl, fun v hv => ?_⟩
  rw [← List.take_append_drop k0 cs, List.mem_append] at hv
  rcases hv with hv | hv
  · exact a0 v hv
  · exact a1 v hv
theorem flat_three {t t0 t1 t2 : TypeId} {k0 k1 k2 : Nat} {fs : Array Field} (hu : P.underlying t = some (.struct fs)) {f0 f1 f2 : Field} (hf : fs.toList = [f0, f1, f2]) (h0 : f0.type = t0 ∧ f0.offset = 0 ∧ P.cellsOf t0 = k0) (h1 : f1.type = t1 ∧ f1.offset = k0 ∧ P.cellsOf t1 = k1)
    (h2 : f2.type = t2 ∧ f2.offset = k0 + k1 ∧ P.cellsOf t2 = k2) (hc : P.cellsOf t = k0 + k1 + k2) (F0 : Flat enc P w t0 k0) (F1 : Flat enc P w t1 k1) (F2 : Flat enc P w t2 k2) : Flat enc P w t (k0 + k1 + k2) := by
  intro fuel cs x h
  obtain ⟨hl, fuel', he⟩ := trd_struct hu h
  rw [hc] at hl
  rw [hf] at he
  obtain ⟨rfl, o0, c0⟩ := h0
  obtain ⟨rfl, o1, c1⟩ := h1
  obtain ⟨rfl, o2, c2⟩ := h2
  obtain ⟨y0, g0⟩ := he f0 (by simp)
  obtain ⟨y1, g1⟩ := he f1 (by simp)
  obtain ⟨y2, g2⟩ := he f2 (by simp)
  rw [o0, c0, List.drop_zero] at g0
  rw [o1, c1] at g1
  rw [o2, c2, List.take_of_length_le (by simp; omega)] at g2
  obtain ⟨_, a0⟩ := F0 _ _ _ g0
  obtain ⟨_, a1⟩ := F1 _ _ _ g1
  obtain ⟨_, a2⟩ := F2 _ _ _ g2
  refine ⟨hl, fun v hv => ?_⟩
  rw [← List.take_append_drop k0 cs, List.mem_append] at hv
  rcases hv with hv | hv
  · exact a0 v hv
  · rw [← List.take_append_drop k1 (cs.drop k0), List.mem_append, List.drop_drop] at hv
    rcases hv with hv | hv
    · exact a1 v hv
    · exact a2 v hv
/-- The cells of a slice of such things. -/
theorem slice_vals {t e : TypeId} {k : Nat} (hu : P.underlying t = some (.slice e)) (hk : P.cellsOf e = k) (F : Flat enc P w e k) {fuel : Nat} {v : Value} {x : DataW H × List MemPlace} (h : trd enc P w fuel t [v] = some x)
    (hs : ∀ a len cap, v = .slice (some a) len cap → a.spot = none) : ∃ (len : Nat) (vals : Nat → Int), VRel (rho0 w) (.vsl ((List.range (len * k)).map fun j => i64 (vals j)) len .no) v := by
  rcases trd_slice hu h with h | ⟨a, len, cap, h, hlc, fuel', he⟩
  · simp only [List.cons.injEq, and_true] at h
    subst h
    refine ⟨0, fun _ => 0, ?_⟩
    rw [Nat.zero_mul]
    exact Or.inl ⟨rfl, rfl, fun p hp => (by cases hp), rfl⟩
  · simp only [List.cons.injEq, and_true] at h
    have hsp := hs a len cap h
    subst h
    obtain ⟨R, off, sp⟩ := a
    simp only at hsp
    subst hsp
    have hcell : ∀ j, ∃ n : Int, j < len * k → w.cell? ⟨R, off + j, none⟩ = some (.int .i64 n) := by
      intro j
      by_cases hj : j < len * k
      · have hk0 : 0 < k := by
          rcases Nat.eq_zero_or_pos k with h | h
          · subst h; simp at hj
          · exact h
        obtain ⟨row, y, g1, g2⟩ := he (j / k) (Nat.div_lt_of_lt_mul (by rw [Nat.mul_comm]; exact hj))
        rw [hk] at g1
        obtain ⟨_, hrl, hrc⟩ := World.cells?_some g1
        obtain ⟨_, ha⟩ := F _ _ _ g2
        have hm : j % k < k := Nat.mod_lt _ hk0
        have hrow : row[j % k]? = some (row[j % k]'(by omega)) := List.getElem?_eq_getElem _
        obtain ⟨n, hn⟩ := ha _ (List.getElem_mem (l := row) (n := j % k) (by omega))
        refine ⟨n, fun _ => ?_⟩
        have := hrc (j % k) hm
        rw [hrow, hn] at this
        rw [← this]
        congr 1
        have hdm := Nat.div_add_mod' j k
        generalize j / k * k = u at hdm
        generalize j % k = z at hdm
        simp only [Addr.add]
        split <;> split <;> simp <;> omega
      · exact ⟨0, fun h => absurd h hj⟩
    refine ⟨len, fun j => (hcell j).choose, Or.inr ⟨R, off, cap, rfl, hlc, IRel.of_get fun i a ha => ?_, trivial⟩⟩
    have hi : i < len * k := by
      rcases Nat.lt_or_ge i (len * k) with h | h
      · exact h
      · rw [List.getElem?_eq_none (by simpa using h)] at ha; cases ha
    rw [List.getElem?_map, List.getElem?_range hi] at ha
    simp only [Option.map_some, Option.some.injEq] at ha
    subst ha
    exact ⟨_, (hcell i).choose_spec hi, rfl, rfl⟩
theorem cells_range {α : Type} {f : α → List AVal} {k : Nat} {mk : Nat → α} {vals : Nat → Int} (hf : ∀ i, f (mk i) = (List.range k).map fun j => i64 (vals (i * k + j))) (n : Nat) : cellsOf f ((List.range n).map mk) = (List.range (n * k)).map fun j => i64 (vals j) := by
  induction n with
  | zero => simp [cells_nil]
  | succ n ih =>
    rw [List.range_succ, List.map_append, cells_append, ih, Nat.add_mul, Nat.one_mul, List.range_add, List.map_append]
    congr 1
    simp only [List.map_cons, List.map_nil, cells_cons, cells_nil, List.append_nil, hf, List.map_map]
    rfl
end

section
variable {H : Type} {enc : TypeId × Value → H} {w : World}
theorem c3 : Try.prog.cellsOf 3 = 1 := by kernel_rfl
theorem c46 : Try.prog.cellsOf 46 = 2 := by kernel_rfl
theorem c85 : Try.prog.cellsOf 85 = 4 := by kernel_rfl
theorem c88 : Try.prog.cellsOf 88 = 3 := by kernel_rfl
theorem c22 : Try.prog.cellsOf 22 = 1 := by kernel_rfl
theorem c23 : Try.prog.cellsOf 23 = 1 := by kernel_rfl
theorem c25 : Try.prog.cellsOf 25 = 3 := by kernel_rfl
theorem F3 : Flat enc Try.prog w 3 1 := flat_int Try.underlying3
theorem F46 : Flat enc Try.prog w 46 2 := flat_two Try.underlying46 rfl ⟨rfl, rfl, c3⟩ ⟨rfl, rfl, c3⟩ c46 F3 F3
theorem F85 : Flat enc Try.prog w 85 4 := flat_three Try.underlying85 rfl ⟨rfl, rfl, c3⟩ ⟨rfl, rfl, c3⟩ ⟨rfl, rfl, c46⟩ c85 F3 F3 F46
theorem F88 : Flat enc Try.prog w 88 3 := flat_two Try.underlying88 rfl ⟨rfl, rfl, c3⟩ ⟨rfl, rfl, c46⟩ c88 F3 F46
theorem spot_of_ok {P : Program} {base : Nat} {t e : TypeId} {v : Value} (hu : P.underlying t = some (.slice e)) (h : Cell.okWide P w .any base t v) : ∀ a len cap, v = .slice (some a) len cap → a.spot = none := by
  rintro a len cap rfl
  unfold Cell.okWide at h
  rw [hu] at h
  unfold Cell.ok at h
  rw [hu] at h
  exact h.2.2.2.1
theorem rel_ents {t : TypeId} (hu : Try.prog.underlying t = some (.slice 85)) {fuel : Nat} {v : Value} {x : DataW H × List MemPlace} (h : trd enc Try.prog w fuel t [v] = some x) (hs : ∀ a len cap, v = .slice (some a) len cap → a.spot = none) : ∃ l : List Ent, VRel (rho0 w) (sl cE l) v := by
  obtain ⟨len, vals, hv⟩ := slice_vals hu c85 F85 h hs
  refine ⟨(List.range len).map fun i => ⟨vals (i * 4 + 0), vals (i * 4 + 1), ⟨vals (i * 4 + 2), vals (i * 4 + 3)⟩⟩, ?_⟩
  have hc := cells_range (f := cE) (k := 4) (mk := fun i => ⟨vals (i * 4 + 0), vals (i * 4 + 1), ⟨vals (i * 4 + 2), vals (i * 4 + 3)⟩⟩) (vals := vals) (fun i => rfl) len
  rw [← hc] at hv
  simpa [sl, lenOf] using hv
theorem rel_says {t : TypeId} (hu : Try.prog.underlying t = some (.slice 88)) {fuel : Nat} {v : Value} {x : DataW H × List MemPlace} (h : trd enc Try.prog w fuel t [v] = some x) (hs : ∀ a len cap, v = .slice (some a) len cap → a.spot = none) : ∃ l : List Say, VRel (rho0 w) (sl cS l) v := by
  obtain ⟨len, vals, hv⟩ := slice_vals hu c88 F88 h hs
  refine ⟨(List.range len).map fun i => ⟨vals (i * 3 + 0), ⟨vals (i * 3 + 1), vals (i * 3 + 2)⟩⟩, ?_⟩
  have hc := cells_range (f := cS) (k := 3) (mk := fun i => ⟨vals (i * 3 + 0), ⟨vals (i * 3 + 1), vals (i * 3 + 2)⟩⟩) (vals := vals) (fun i => rfl) len
  rw [← hc] at hv
  simpa [sl, lenOf] using hv
theorem rel_ints {fuel : Nat} {v : Value} {x : DataW H × List MemPlace} (h : trd enc Try.prog w fuel 37 [v] = some x) (hs : ∀ a len cap, v = .slice (some a) len cap → a.spot = none) : ∃ l : List Int, VRel (rho0 w) (sl cI l) v := by
  obtain ⟨len, vals, hv⟩ := slice_vals Try.underlying37 c3 F3 h hs
  refine ⟨(List.range len).map fun i => vals (i * 1 + 0), ?_⟩
  have hc := cells_range (f := cI) (k := 1) (mk := fun i => vals (i * 1 + 0)) (vals := vals) (fun i => rfl) len
  rw [← hc] at hv
  simpa [sl, lenOf] using hv
theorem rel_slate {base : Nat} {v : Value} {d : DataW H} {p : List MemPlace} (hok : Value.okWide Try.prog w .any base 25 v) (h : DataW.Trod enc Try.prog w 0 (fun _ => true) true 25 v d p) : ∃ S : Slate, VRel (rho0 w) (vSl S) v := by
  obtain ⟨fuel, h⟩ := h
  unfold Value.okWide at hok
  rw [Try.underlying25] at hok
  obtain ⟨cs, rfl, hsz, ts, hts, _, hrow⟩ := hok
  rw [c25] at hsz
  have hts' : Try.prog.cellTypes Try.prog.depth 25 = some [3, 22, 23] := by kernel_rfl
  rw [hts'] at hts
  cases hts
  obtain ⟨l⟩ := cs
  simp only [List.size_toArray] at hsz
  match l, hsz with
  | [x0, x1, x2], _ =>
    obtain ⟨_, fuel', he⟩ := trd_struct Try.underlying25 h
    simp only [Value.cells, List.mem_cons, List.not_mem_nil, or_false, forall_eq_or_imp, forall_eq, c3, c22, c23] at he
    obtain ⟨⟨y0, h0⟩, ⟨y1, h1⟩, ⟨y2, h2⟩⟩ := he
    obtain ⟨_, a0⟩ := F3 _ _ _ h0
    obtain ⟨n, hn⟩ := a0 x0 (by simp)
    obtain ⟨u1, e1, o1⟩ := hrow 1 x1 rfl
    obtain ⟨u2, e2, o2⟩ := hrow 2 x2 rfl
    cases e1; cases e2
    obtain ⟨es, r1⟩ := rel_ents Try.underlying22 h1 (spot_of_ok Try.underlying22 o1)
    obtain ⟨ss, r2⟩ := rel_says Try.underlying23 h2 (spot_of_ok Try.underlying23 o2)
    refine ⟨⟨n, es, ss⟩, _, rfl, x0, [x1, x2], rfl, by subst hn; rfl, hn, x1, [x2], rfl, ?_, r1, x2, [], rfl, ?_, r2, rfl⟩
    · rcases r1 with ⟨_, _, _, h⟩ | ⟨_, _, _, h, _⟩ <;> rw [h] <;> rfl
    · rcases r2 with ⟨_, _, _, h⟩ | ⟨_, _, _, h, _⟩ <;> rw [h] <;> rfl

theorem stays_all {P : Program} (hl : laidOutB P = true) {W W' : World} {sp : Nat → Bool} : ∀ {ts : List TypeId} {vs : List Value} {ds : List (DataW H)} {ps : List MemPlace}, (∀ t ∈ ts, P.readableRec t = true ∧ t < P.types.size) →
    DataW.TrodAll enc P W 0 (fun _ => true) true ts vs ds ps → (∀ p ∈ ps, W.sameAt W' p) → (∀ p ∈ ps, sp p.block = true) → DataW.TrodAll enc P W' 0 sp true ts vs ds ps
  | [], vs, ds, ps, _, h, _, _ => by
    cases vs <;> cases ds <;> simp_all [DataW.TrodAll]
  | t :: ts, vs, ds, ps, hr, h, hs, hp => by
    obtain ⟨v, vs', d, ds', p, q, rfl, rfl, rfl, hd, hrest⟩ := trodAll_cons h
    obtain ⟨r1, r2⟩ := hr t (by simp)
    exact ⟨p, q, Go.WideElems.Trod_stays hl r1 r2 hd (fun x hx => hs x (by simp [hx])) (fun x hx => hp x (by simp [hx])), stays_all hl (fun t ht => hr t (by simp [ht])) hrest (fun x hx => hs x (by simp [hx])) (fun x hx => hp x (by simp [hx])), rfl⟩
theorem laid : laidOutB Try.prog = true := by kernel_rfl
theorem shut_true {f : Func} {s : ChangeSpec} {W W' : World} {args : Array Value} {ds : List (DataW H)} {before : List MemPlace} {ρ' : Rho} (hW : DataW.Whole enc Try.prog f.params.toList s.vars false W args.toList ds [] before) (hv : s.vars = [])
    (hr : f.resultTypes.toList = [4]) (hrd : ∀ t ∈ f.params.toList, Try.prog.readableRec t = true ∧ t < Try.prog.types.size) (h1 : (s.fn H (ds ++ [])).results = [.lit (.bool true)]) (h2 : (s.fn H (ds ++ [])).args = ds) (h3 : (s.fn H (ds ++ [])).vars = [])
    (hF : Fwd (rho0 W) W ρ' W') : s.post enc Try.prog f false true false false W args (.bool true) W' := by
  have hb : ∀ R, R < W.heap.size → W'.heap[R]? = W.heap[R]? := fun R hR => hF.kept R hR (by
    rintro (⟨b, hb⟩ | ⟨p, r, hp, _⟩)
    · cases hb
    · cases hp)
  have hlt := hW.lt
  have hW0 := hW
  obtain ⟨p, q, hA, hV, rfl, _, _⟩ := hW0
  rw [hv] at hV
  obtain ⟨_, rfl⟩ := trodVars_none hV
  rw [List.append_nil] at hlt
  have hargs : DataW.TrodAll enc Try.prog W' 0 (fun b => decide (b < W.heap.size)) true f.params.toList args.toList ds p := by
    refine stays_all laid hrd hA (fun x hx => ?_) (fun x hx => by simpa using hlt x hx)
    cases x with
    | cell b o => exact World.cell?_of_block (w := W) (hb b (hlt _ hx))
    | map b => exact hb b (hlt _ hx)
  have hrs : f.resultTypes.size = 1 := by rw [← Array.length_toList, hr]; rfl
  refine ⟨ds, [], _, [], p, [], hW, ?_, ?_, ?_, ⟨hF.os, hF.output, fun i hi => ?_⟩, fun h => by cases h⟩
  · rw [h1, hr, hrs]
    refine trodAll_mk1 ⟨1, ?_⟩
    simp [DataW.trod, Try.underlying4, Value.cells]
  · rw [h2]; exact hargs
  · rw [h3, hv]; rfl
  · rw [hb i hi]; split <;> simp_all
end
theorem thin_len {S : Slate} (h : thin S = true) : S.es.length ≤ 8 ∧ S.ss.length ≤ 7 := by
  unfold thin at h
  simp only [Bool.and_eq_true, Bool.not_eq_true', Bool.or_eq_false_iff, decide_eq_false_iff_not] at h
  obtain ⟨⟨h1, h2⟩, _⟩ := h
  unfold lenOf at h1 h2
  omega
end Go.Proofs.Ytlhfeiacigmliaa

/- The wash-house's soap: a slate with some of its sayings, and whether it has a truth. -/
namespace Go.Proofs.Ytlhfeiacigmliaa
open Go
set_option maxRecDepth 100000

end Go.Proofs.Ytlhfeiacigmliaa

/- The plain law of the fewest payments' number: the program's and the document's. -/
namespace Go.Proofs.Ytlhfeiacigmliaa
open Go
set_option maxRecDepth 100000

theorem eq6_fun {a b : Nat → Int} (h : eq6 a b = true) : ∀ j, j < 6 → a j = b j := fun j hj => eq6_at h hj
theorem payV_same {S : Slate} {L : List Int} (hc : checkSlate S = 0) (ha : areOz S.es L = true) : payV (owV S.es L) = payR S L := by
  have hG := good_of_check hc
  have hs := small_ow hG ha
  have hT : ∀ g, g < 64 → togA S.es L g = ps (owV S.es L) g := fun g hg => togA_ps hs hg
  unfold payV payR
  rw [open_same hc ha, most_same hs hT (openN_lt _) (open_zero hc ha)]
end Go.Proofs.Ytlhfeiacigmliaa

/- The plain law of payments: those that the program returns settle all, they are the fewest, and no others that settle all are fewer. -/
namespace Go.Proofs.Ytlhfeiacigmliaa
open Go
set_option maxRecDepth 100000

def payD (x : Pay) (j : Nat) : Int := (if x.fr = Int.ofNat j then x.oz else 0) - (if x.to = Int.ofNat j then x.oz else 0)
def paysD : List Pay → Nat → Int
  | [], _ => 0
  | x :: l, j => payD x j + paysD l j
/-- A payment between two of so many women. -/
def PayW (w : Nat) (x : Pay) : Prop := ∃ f t : Nat, f < w ∧ t < w ∧ f ≠ t ∧ x.fr = Int.ofNat f ∧ x.to = Int.ofNat t ∧ 1 ≤ x.oz ∧ x.oz ≤ 240
theorem paysD_append : ∀ (l l' : List Pay) (j : Nat), paysD (l ++ l') j = paysD l j + paysD l' j
  | [], l', j => by simp [paysD]
  | x :: l, l', j => by simp only [List.cons_append, paysD, paysD_append l l' j]; omega
theorem payD_mk (f t : Nat) (n : Int) (j : Nat) : payD ⟨Int.ofNat f, Int.ofNat t, n⟩ j = dl f n j - dl t n j := by
  unfold payD dl
  simp only [Int.ofNat_eq_natCast, Int.ofNat_inj]

def sumL (a : Nat → Int) : List Nat → Int
  | [] => 0
  | j :: l => a j + sumL a l
theorem sumL_put {a : Nat → Int} {x : Nat} (v : Int) : ∀ {gs : List Nat}, gs.Nodup → x ∈ gs → sumL (put a x v) gs = sumL a gs - a x + v
  | [], _, h => by simp at h
  | y :: gs, hn, h => by
    rw [List.nodup_cons] at hn
    simp only [sumL]
    by_cases hy : y = x
    · subst hy
      have : sumL (put a y v) gs = sumL a gs := by
        have : ∀ l : List Nat, y ∉ l → sumL (put a y v) l = sumL a l := by
          intro l
          induction l with
          | nil => intro _; rfl
          | cons z l ih =>
            intro hz
            simp only [List.mem_cons, not_or] at hz
            simp only [sumL, ih hz.2, put, if_neg (Ne.symm hz.1)]
        exact this gs hn.1
      rw [this]; simp only [put, if_true]; omega
    · have hx : x ∈ gs := by
        rcases List.mem_cons.mp h with h | h
        · exact absurd h.symm hy
        · exact h
      rw [sumL_put v hn.2 hx]; simp only [put, if_neg hy]; omega
theorem openC_zero {a : Nat → Int} : ∀ {gs : List Nat}, openC a gs = 0 ↔ ∀ j ∈ gs, a j = 0
  | [] => by simp [openC]
  | y :: gs => by
    have ih := openC_zero (a := a) (gs := gs)
    simp only [openC, List.mem_cons, forall_eq_or_imp]
    by_cases h : a y = 0
    · simp only [h, if_true, true_and]; rw [← ih]; omega
    · rw [if_neg h]; exact ⟨fun h' => by omega, fun h' => absurd h'.1 h⟩
theorem find_none {gs : List Nat} {P : Nat → Bool} (h : gs.findIdx? P = none) : ∀ j ∈ gs, P j = false := by
  simpa using h
theorem sum_zero_neg {a : Nat → Int} : ∀ {gs : List Nat}, (∀ j ∈ gs, 0 ≤ a j) → 0 ≤ sumL a gs ∧ (sumL a gs = 0 → ∀ j ∈ gs, a j = 0)
  | [], _ => by simp [sumL]
  | y :: gs, h => by
    have ih := sum_zero_neg (a := a) (gs := gs) fun j hj => h j (by simp [hj])
    have hy := h y (by simp)
    simp only [sumL]
    refine ⟨by omega, fun hz j hj => ?_⟩
    rcases List.mem_cons.mp hj with hj | hj
    · subst hj; omega
    · exact ih.2 (by omega) j hj
theorem sum_zero_pos {a : Nat → Int} : ∀ {gs : List Nat}, (∀ j ∈ gs, a j ≤ 0) → sumL a gs ≤ 0 ∧ (sumL a gs = 0 → ∀ j ∈ gs, a j = 0)
  | [], _ => by simp [sumL]
  | y :: gs, h => by
    have ih := sum_zero_pos (a := a) (gs := gs) fun j hj => h j (by simp [hj])
    have hy := h y (by simp)
    simp only [sumL]
    refine ⟨by omega, fun hz j hj => ?_⟩
    rcases List.mem_cons.mp hj with hj | hj
    · subst hj; omega
    · exact ih.2 (by omega) j hj
/-- What settleF does to a group whose sum is 0. -/
theorem settleF_law {gs : List Nat} (hn : gs.Nodup) {w : Nat} (hw : ∀ j ∈ gs, j < w) : ∀ (f : Nat) (a : Nat → Int), openC a gs < f → (∀ j, -240 ≤ a j ∧ a j ≤ 240) → sumL a gs = 0 →
    (∀ x ∈ settleF f a gs, PayW w x) ∧ (∀ j ∈ gs, a j + paysD (settleF f a gs) j = 0) ∧ (∀ j, j ∉ gs → paysD (settleF f a gs) j = 0) ∧ (settleF f a gs).length ≤ openC a gs - 1 := by
  intro f
  induction f with
  | zero => intro a h; omega
  | succ f ih =>
    intro a hf hs hz
    have done : (∀ j ∈ gs, a j = 0) → (∀ x ∈ ([] : List Pay), PayW w x) ∧ (∀ j ∈ gs, a j + paysD [] j = 0) ∧ (∀ j, j ∉ gs → paysD [] j = 0) ∧ ([] : List Pay).length ≤ openC a gs - 1 := by
      intro h
      refine ⟨by simp, fun j hj => by rw [h j hj]; rfl, fun _ _ => rfl, by simp⟩
    rw [settleF]
    cases h1 : gs.findIdx? (fun j => decide (a j < 0)) with
    | none =>
      simp only
      refine done fun j hj => (sum_zero_neg fun j hj => ?_).2 hz j hj
      have := find_none h1 j hj
      simp only [decide_eq_false_iff_not] at this; omega
    | some i =>
      cases h2 : gs.findIdx? (fun j => decide (0 < a j)) with
      | none =>
        simp only
        refine done fun j hj => (sum_zero_pos fun j hj => ?_).2 hz j hj
        have := find_none h2 j hj
        simp only [decide_eq_false_iff_not] at this; omega
      | some k =>
        obtain ⟨hil, hia⟩ := find_get h1
        obtain ⟨hkl, hka⟩ := find_get h2
        simp only [decide_eq_true_eq] at hia hka
        have gx : gs.getD i 0 = gs[i] := by simp [hil]
        have gy : gs.getD k 0 = gs[k] := by simp [hkl]
        simp only [gx, gy]
        have mx' : gs[i] ∈ gs := List.getElem_mem hil
        have my' : gs[k] ∈ gs := List.getElem_mem hkl
        generalize gs[i] = x at hia mx' ⊢
        generalize gs[k] = y at hka my' ⊢
        have hxy : x ≠ y := fun h => by subst h; omega
        have sx := hs x
        have sy := hs y
        have hn2 : mn (-a x) (a y) = -a x ∨ mn (-a x) (a y) = a y := by unfold mn; omega
        have hnp : 0 < mn (-a x) (a y) ∧ mn (-a x) (a y) ≤ -a x ∧ mn (-a x) (a y) ≤ a y := by unfold mn; omega
        generalize mn (-a x) (a y) = n at hn2 hnp ⊢
        have hpy : put a x (a x + n) y = a y := by simp [put, Ne.symm hxy]
        rw [hpy]
        have v : ∀ j, put (put a x (a x + n)) y (a y - n) j = a j + (dl x n j - dl y n j) := by
          intro j
          unfold put dl
          by_cases h2 : j = y
          · subst h2; simp only [if_true, if_neg hxy]; omega
          · by_cases h3 : j = x
            · subst h3; simp only [if_true, if_neg h2, if_neg (Ne.symm h2)]; omega
            · simp only [if_neg h2, if_neg h3, if_neg (Ne.symm h2), if_neg (Ne.symm h3)]; omega
        have hle : openC (put (put a x (a x + n)) y (a y - n)) gs < openC a gs := by
          rcases hn2 with h | h
          · refine openC_lt (fun j _ hj => ?_) mx' (by omega) ?_
            · have h1 : j ≠ x := fun h => by subst h; omega
              have h2 : j ≠ y := fun h => by subst h; omega
              simp [put, h1, h2, hj]
            · simp [put, hxy]; omega
          · refine openC_lt (fun j _ hj => ?_) my' (by omega) ?_
            · have h1 : j ≠ x := fun h => by subst h; omega
              have h2 : j ≠ y := fun h => by subst h; omega
              simp [put, h1, h2, hj]
            · simp only [put, if_true]; omega
        have h2o : 2 ≤ openC a gs := by
          have h1 : openC (put a x 0) gs < openC a gs := openC_lt (fun j _ hj => by unfold put; split <;> simp [hj]) mx' (by omega) (by simp [put])
          have h2 : openC (put a x 0) gs ≠ 0 := fun h => by
            have := openC_zero.1 h y my'
            simp only [put, if_neg (Ne.symm hxy)] at this; omega
          omega
        have hsum : sumL (put (put a x (a x + n)) y (a y - n)) gs = 0 := by
          rw [sumL_put _ hn my', sumL_put _ hn mx', hpy]; omega
        obtain ⟨i1, i2, i3, i4⟩ := ih (put (put a x (a x + n)) y (a y - n)) (by omega) (fun j => by
          rw [v]; unfold dl
          have := hs j
          by_cases h2 : y = j
          · subst h2; simp only [if_true, if_neg hxy]; omega
          · by_cases h3 : x = j
            · subst h3; simp only [if_true, if_neg h2]; omega
            · simp only [if_neg h2, if_neg h3]; omega) hsum
        refine ⟨?_, ?_, ?_, ?_⟩
        · intro p hp
          rcases List.mem_cons.mp hp with hp | hp
          · subst hp
            exact ⟨x, y, hw x mx', hw y my', hxy, rfl, rfl, by simp only; omega, by simp only; omega⟩
          · exact i1 p hp
        · intro j hj
          have := i2 j hj
          rw [v] at this
          rw [paysD, payD_mk]; omega
        · intro j hj
          have hjx : x ≠ j := fun h => by subst h; exact hj mx'
          have hjy : y ≠ j := fun h => by subst h; exact hj my'
          rw [paysD, payD_mk, i3 j hj]; unfold dl; rw [if_neg hjx, if_neg hjy]; rfl
        · simp only [List.length_cons]
          omega

theorem nats_bits {g : Nat} (hg : g < 64) : nats (bitsOf g) = (List.range 6).filter g.testBit := by
  rw [bits_list g hg]
  unfold nats ints
  rw [List.map_map]
  have : (Int.toNat ∘ Int.ofNat) = id := rfl
  rw [this, List.map_id]
theorem sumL_filter (a : Nat → Int) (g : Nat) : ∀ l : List Nat, sumL a (l.filter g.testBit) = psl a g l
  | [] => rfl
  | i :: l => by
    rw [psl]
    unfold term
    by_cases h : g.testBit i = true
    · rw [List.filter_cons_of_pos h, sumL, sumL_filter a g l, if_pos h]
    · rw [List.filter_cons_of_neg h, sumL_filter a g l, if_neg h]; omega
theorem psl_6 (a : Nat → Int) (g : Nat) : psl a g (List.range 6) = ps a g := by
  show psl _ _ [0, 1, 2, 3, 4, 5] = _
  simp only [psl, ps]; omega
theorem pc_sub : ∀ w, w < 64 → ∀ g, g < 64 → band g w = g → pc g + pc (bsub w g) = pc w := by
  have h : ((List.range 64).all fun w => (List.range 64).all fun g => (!decide (band g w = g) || decide (pc g + pc (bsub w g) = pc w))) = true := by kernel_rfl
  intro w hw g hg h2
  rw [List.all_eq_true] at h
  have h4 := h w (by simpa using hw)
  rw [List.all_eq_true] at h4
  have h5 := h4 g (by simpa using hg)
  simpa [h2] using h5
theorem pc_pos : ∀ w, w < 64 → w ≠ 0 → 0 < pc w := by
  have h : ((List.range 64).all fun w => decide (w = 0) || decide (0 < pc w)) = true := by kernel_rfl
  intro w hw h0
  rw [List.all_eq_true] at h
  have h1 := h w (by simpa using hw)
  simpa [h0] using h1
theorem settleG_law {a : Nat → Int} {g w : Nat} (hg : g < 64) (hw : ∀ j, g.testBit j = true → j < w) (hs : ∀ j, -240 ≤ a j ∧ a j ≤ 240) (hz : ps a g = 0) :
    (∀ x ∈ settleG a (bitsOf g), PayW w x) ∧ (∀ j, g.testBit j = true → a j + paysD (settleG a (bitsOf g)) j = 0) ∧ (∀ j, g.testBit j = false → paysD (settleG a (bitsOf g)) j = 0) ∧ (settleG a (bitsOf g)).length ≤ pc g - 1 := by
  unfold settleG
  rw [nats_bits hg]
  have hm : ∀ j, j ∈ (List.range 6).filter g.testBit ↔ g.testBit j = true := by
    intro j
    rw [List.mem_filter, List.mem_range]
    exact ⟨fun h => h.2, fun h => ⟨bit_lt6 hg h, h⟩⟩
  have hl : ((List.range 6).filter g.testBit).length = pc g := by unfold pc; rw [bits_list g hg]; simp [ints]
  have ho := openC_len a ((List.range 6).filter g.testBit)
  have h6 := (pc_facts g hg).1
  obtain ⟨h1, h2, h3, h4⟩ := settleF_law (gs := (List.range 6).filter g.testBit) (List.nodup_range.sublist List.filter_sublist) (w := w) (fun j hj => hw j ((hm j).1 hj)) 1000 a (by omega) hs (by rw [sumL_filter, psl_6]; exact hz)
  refine ⟨h1, fun j hj => h2 j ((hm j).2 hj), fun j hj => h3 j (fun h => by rw [(hm j).1 h] at hj; cases hj), by omega⟩
theorem settle_groups {a : Nat → Int} {w : Nat} (hs : ∀ j, -240 ≤ a j ∧ a j ≤ 240) : ∀ {gs : List Nat} {left : Nat}, left < 64 → (∀ j, left.testBit j = true → j < w) → GrpsOk (ps a) left gs →
    (∀ x ∈ (gs.map bitsOf).flatMap (settleG a), PayW w x) ∧ (∀ j, left.testBit j = true → a j + paysD ((gs.map bitsOf).flatMap (settleG a)) j = 0) ∧ (∀ j, left.testBit j = false → paysD ((gs.map bitsOf).flatMap (settleG a)) j = 0) ∧ ((gs.map bitsOf).flatMap (settleG a)).length + gs.length ≤ pc left
  | [], left, _, _, h => by
    obtain rfl : left = 0 := h
    exact ⟨by simp, fun j hj => by simp at hj, fun _ _ => rfl, by simp⟩
  | g :: gs, left, hl, hw, h => by
    obtain ⟨h1, h2, h3, h4⟩ := h
    have hsb := band_sb h2
    have hg : g < 64 := Nat.lt_of_le_of_lt hsb.le hl
    have hrest : bsub left g < 64 := Nat.lt_of_le_of_lt (sb_sub _ _).le hl
    obtain ⟨a1, a2, a3, a4⟩ := settleG_law (a := a) (w := w) hg (fun j hj => hw j (hsb j hj)) hs h3
    obtain ⟨b1, b2, b3, b4⟩ := settle_groups (a := a) (w := w) hs hrest (fun j hj => hw j (sb_sub _ _ j hj)) h4
    have hpc := pc_sub left hl g hg h2
    have hpp := pc_pos g hg h1
    rw [List.map_cons, List.flatMap_cons]
    refine ⟨?_, ?_, ?_, ?_⟩
    · intro x hx
      rcases List.mem_append.mp hx with hx | hx
      · exact a1 x hx
      · exact b1 x hx
    · intro j hj
      rw [paysD_append]
      cases hgj : g.testBit j with
      | true =>
        have hf : (bsub left g).testBit j = false := by rw [bsub_t, hgj]; simp
        have := a2 j hgj
        rw [b3 j hf]; omega
      | false =>
        have hf : (bsub left g).testBit j = true := by rw [bsub_t, hgj, hj]; rfl
        have := b2 j hf
        rw [a3 j hgj]; omega
    · intro j hj
      have hgj : g.testBit j = false := by
        cases h : g.testBit j with
        | false => rfl
        | true => rw [hsb j h] at hj; cases hj
      have hf : (bsub left g).testBit j = false := by rw [bsub_t, hj]; rfl
      rw [paysD_append, a3 j hgj, b3 j hf]; rfl
    · rw [List.length_append, List.length_cons]; omega

theorem Part.single : ∀ {a : Nat → Int}, (∀ j, j < 6 → a j = 0) → Part a 63 6 := by
  intro a h
  have key : ∀ {w n : Nat} (i : Nat), i < 6 → w.testBit i = true → Part a (bsub w (pw i)) n → Part a w (n + 1) := by
    intro w n i hi hb hp
    refine .cons (g := pw i) (bit_ne (i := i) (by rw [pw_t]; simp)) (sb_pw hb) ?_ hp
    have ht : ∀ k, k < 6 → term a (pw i) k = 0 := by
      intro k hk; unfold term; split
      · exact h k hk
      · rfl
    unfold ps
    rw [ht 0 (by omega), ht 1 (by omega), ht 2 (by omega), ht 3 (by omega), ht 4 (by omega), ht 5 (by omega)]; rfl
  refine key (n := 5) 0 (by omega) (by rfl) ?_
  refine key (n := 4) 1 (by omega) (by rfl) ?_
  refine key (n := 3) 2 (by omega) (by rfl) ?_
  refine key (n := 2) 3 (by omega) (by rfl) ?_
  refine key (n := 1) 4 (by omega) (by rfl) ?_
  refine key (n := 0) 5 (by omega) (by rfl) ?_
  exact .nil
/-- Groups of what is owed after a payment make groups of what is owed before it: two are joined at most. -/
theorem Part.unpay {a : Nat → Int} {f t : Nat} (hf : f < 6) (ht : t < 6) {x : Int} {n : Nat} (h : Part (mv a f t x) 63 n) : ∃ m, n ≤ m + 1 ∧ Part a 63 m := by
  obtain ⟨g, m, rfl, h1, h2, h3, h4⟩ := h.extract f (test63 hf)
  by_cases hgt : g.testBit t = true
  · refine ⟨m + 1, by omega, .cons (bit_ne h2) h1 ?_ (h4.congr fun i hi hb => ?_)⟩
    · rw [ps_mv a hf ht, if_pos h2, if_pos hgt] at h3; omega
    · rw [bsub_t] at hb
      have hif : f ≠ i := fun h => by subst h; rw [h2] at hb; simp at hb
      have hit : t ≠ i := fun h => by subst h; rw [hgt] at hb; simp at hb
      unfold mv dl; rw [if_neg hif, if_neg hit]; omega
  · have htr : (bsub 63 g).testBit t = true := by rw [bsub_t, test63 ht]; simp [hgt]
    obtain ⟨g', m', rfl, k1, k2, k3, k4⟩ := h4.extract t htr
    have hgf : g'.testBit f = false := by
      cases h : g'.testBit f with
      | false => rfl
      | true =>
        have := k1 f h
        rw [bsub_t, h2] at this; simp at this
    have hd : Dj g g' := fun i hi => by
      cases h : g'.testBit i with
      | false => rfl
      | true =>
        have := k1 i h
        rw [bsub_t, hi] at this; simp at this
    refine ⟨m' + 1, by omega, .cons (g := bor g g') (bit_ne (i := f) (by rw [bor_t, h2]; rfl)) ?_ ?_ ?_⟩
    · intro i hi
      rw [bor_t, Bool.or_eq_true] at hi
      rcases hi with hi | hi
      · exact h1 i hi
      · exact sb_sub _ _ i (k1 i hi)
    · rw [ps_or a hd]
      rw [ps_mv a hf ht, if_pos h2, if_neg hgt] at h3
      rw [ps_mv a hf ht, hgf, if_pos k2] at k3
      simp only [Bool.false_eq_true, if_false] at k3
      omega
    · rw [sub_or]
      refine k4.congr fun i hi hb => ?_
      rw [bsub_t, bsub_t, Bool.and_eq_true, Bool.and_eq_true] at hb
      have hif : f ≠ i := fun h => by subst h; rw [h2] at hb; simp at hb
      have hit : t ≠ i := fun h => by subst h; rw [k2] at hb; simp at hb
      unfold mv dl; rw [if_neg hif, if_neg hit]; omega
theorem part_pays : ∀ {l : List Pay} {a : Nat → Int}, (∀ x ∈ l, PayW 6 x) → (∀ j, j < 6 → a j + paysD l j = 0) → ∃ n, 6 ≤ n + l.length ∧ Part a 63 n
  | [], a, _, h => ⟨6, by simp, .single fun j hj => by have := h j hj; simpa [paysD] using this⟩
  | x :: l, a, hp, h => by
    obtain ⟨f, t, hf, ht, hne, e1, e2, _, _⟩ := hp x (by simp)
    obtain ⟨n, h1, h2⟩ := part_pays (l := l) (a := mv a f t x.oz) (fun y hy => hp y (by simp [hy])) (fun j hj => by
      have := h j hj
      rw [paysD] at this
      unfold payD at this
      rw [e1, e2] at this
      simp only [Int.ofNat_eq_natCast, Int.ofNat_inj] at this
      unfold mv dl; omega)
    obtain ⟨m, h3, h4⟩ := h2.unpay hf ht
    exact ⟨m, by simp only [List.length_cons]; omega, h4⟩
/-- Women who are owed 0 are left out of groups. -/
theorem Part.open {a : Nat → Int} {w n : Nat} (h : Part a w n) : w < 64 → ∃ m, Part a (band w (openN a)) m ∧ n + pc (band w (openN a)) ≤ m + pc w := by
  induction h with
  | nil => intro _; exact ⟨0, by rw [show band 0 (openN a) = 0 from by unfold band; simp]; exact .nil, by rw [show band 0 (openN a) = 0 from by unfold band; simp]; omega⟩
  | @cons w g n h0 hs hz h ih =>
    intro hw
    have hg : g < 64 := Nat.lt_of_le_of_lt hs.le hw
    have hr : bsub w g < 64 := Nat.lt_of_le_of_lt (sb_sub w g).le hw
    obtain ⟨m, h1, h2⟩ := ih hr
    have hbl : ∀ u, u < 64 → band u (openN a) < 64 := fun u hu => Nat.lt_of_le_of_lt Nat.and_le_left hu
    have e1 : bsub (band w (openN a)) (band g (openN a)) = band (bsub w g) (openN a) := by
      apply Nat.eq_of_testBit_eq
      intro i
      simp only [bsub_t, band_t]
      cases w.testBit i <;> cases g.testBit i <;> cases (openN a).testBit i <;> rfl
    have s1 : Sb (band g (openN a)) (band w (openN a)) := by
      intro i hi
      rw [band_t, Bool.and_eq_true] at hi
      rw [band_t, hs i hi.1, hi.2]; rfl
    have c1 := pc_sub w hw g hg (sb_band hs)
    have c2 := pc_sub (band w (openN a)) (hbl w hw) (band g (openN a)) (hbl g hg) (sb_band s1)
    have hgo : pc (band g (openN a)) ≤ pc g := by
      have h3 : Sb (band g (openN a)) g := fun i hi => by rw [band_t, Bool.and_eq_true] at hi; exact hi.1
      have := pc_sub g hg (band g (openN a)) (hbl g hg) (sb_band h3)
      omega
    have hpz : ps a (band g (openN a)) = ps a g := by
      have ht : ∀ i, i < 6 → term a (band g (openN a)) i = term a g i := by
        intro i hi
        unfold term
        rw [band_t, open_t]
        by_cases h : a i = 0
        · simp [h]
        · simp [h, hi]
      unfold ps
      rw [ht 0 (by omega), ht 1 (by omega), ht 2 (by omega), ht 3 (by omega), ht 4 (by omega), ht 5 (by omega)]
    rw [e1] at c2
    by_cases hgz : band g (openN a) = 0
    · refine ⟨m, ?_, ?_⟩
      · have : band w (openN a) = band (bsub w g) (openN a) := by
          rw [← e1, hgz]
          apply Nat.eq_of_testBit_eq
          intro i; rw [bsub_t]; simp
        rw [this]; exact h1
      · have := pc_pos g hg h0
        rw [hgz] at c2
        have : pc 0 = 0 := rfl
        omega
    · exact ⟨m + 1, .cons hgz s1 (by rw [hpz]; exact hz) (by rw [e1]; exact h1), by omega⟩
theorem pc_63 : pc 63 = 6 := rfl
/-- No payments that settle all are fewer than women who are not owed 0, less the most groups. -/
theorem pays_least {a : Nat → Int} (hs : Small a) {l : List Pay} (hp : ∀ x ∈ l, PayW 6 x) (h : ∀ j, j < 6 → a j + paysD l j = 0) : pc (openN a) ≤ l.length + mostN a (openN a) := by
  obtain ⟨n, h1, h2⟩ := part_pays hp h
  obtain ⟨m, h3, h4⟩ := h2.open (by omega)
  have ho := openN_lt a
  have he : band 63 (openN a) = openN a := by
    apply Nat.eq_of_testBit_eq
    intro i
    rw [band_t]
    cases hi : (openN a).testBit i with
    | false => simp
    | true => rw [test63 (bit_lt6 ho hi)]; rfl
  rw [he] at h3 h4
  have h5 := most_ge hs h3 ho
  rw [pc_63] at h4
  omega
/-- What Settle returns settles all, and is as short as can be. -/
theorem settleA_law {a : Nat → Int} {w : Nat} (hw : w ≤ 6) (hs : ∀ j, -240 ≤ a j ∧ a j ≤ 240) (hz : ps a 63 = 0) (ho : ∀ j, w ≤ j → a j = 0) :
    (∀ x ∈ settleA a, PayW w x) ∧ (∀ j, a j + paysD (settleA a) j = 0) ∧ (settleA a).length + mostN a (openN a) = pc (openN a) := by
  have hsm : Small a := fun j => by have := hs j; omega
  obtain ⟨gs, h1, h2, h3⟩ := groups_law hsm (T := ps a) (fun _ _ => rfl) (by rw [open_ps]; exact hz)
  have hwo : ∀ j, (openN a).testBit j = true → j < w := by
    intro j hj
    rw [open_t, decide_eq_true_eq] at hj
    rcases Nat.lt_or_ge j w with h | h
    · exact h
    · exact absurd (ho j h) hj.2
  obtain ⟨a1, a2, a3, a4⟩ := settle_groups (a := a) (w := w) hs (openN_lt a) hwo h2
  have hA : settleA a = (gs.map bitsOf).flatMap (settleG a) := by unfold settleA; rw [h1]
  rw [← hA] at a1 a2 a3 a4
  have key : ∀ j, a j + paysD (settleA a) j = 0 := by
    intro j
    cases hj : (openN a).testBit j with
    | true => exact a2 j hj
    | false =>
      rw [a3 j hj]
      rw [open_t, decide_eq_false_iff_not] at hj
      rcases Nat.lt_or_ge j 6 with h | h
      · have : a j = 0 := by
          by_cases h0 : a j = 0
          · exact h0
          · exact absurd ⟨h, h0⟩ hj
        omega
      · rw [ho j (by omega)]; rfl
  refine ⟨a1, key, ?_⟩
  have h6 : ∀ x ∈ settleA a, PayW 6 x := fun x hx => by
    obtain ⟨f, t, h1, h2, h3⟩ := a1 x hx
    exact ⟨f, t, by omega, by omega, h3⟩
  have := pays_least hsm h6 (fun j _ => key j)
  omega
end Go.Proofs.Ytlhfeiacigmliaa

/- The plain law of groups and payments of a slate that is valid, with ounces. -/
namespace Go.Proofs.Ytlhfeiacigmliaa
open Go
set_option maxRecDepth 100000

theorem ow240 {S : Slate} {L : List Int} (hc : checkSlate S = 0) (ha : areOz S.es L = true) : ∀ j, -240 ≤ owV S.es L j ∧ owV S.es L j ≤ 240 := by
  have hG := good_of_check hc
  intro j
  rw [owV_plain hG ha]
  have := ow_le (okw_of_check hc) hG.oe ha j
  have := hG.e6
  omega
theorem ow_far {S : Slate} {L : List Int} (hc : checkSlate S = 0) (ha : areOz S.es L = true) : ∀ j, S.women.toNat ≤ j → owV S.es L j = 0 := by
  intro j hj
  rw [owV_plain (good_of_check hc) ha]
  exact ow_out (okw_of_check hc) j hj
theorem ow_zero {S : Slate} {L : List Int} (hc : checkSlate S = 0) (ha : areOz S.es L = true) : ps (owV S.es L) 63 = 0 := by
  have hG := good_of_check hc
  have h6 := hG.w6
  rw [owV_plain hG ha]
  exact ow_sum (w := S.women.toNat) (by omega) (okw_of_check hc)
theorem play_facts {S : Slate} {L : List Int} (hc : checkSlate S = 0) (ha : areOz S.es L = true) : playErr S L = 0 ∧ playOw S L = owV S.es L ∧ playL S L = l6 (owV S.es L) S.women.toNat := by
  have hE : playErr S L = 0 := by unfold playErr; rw [if_neg (by simp [hc]), ha, if_pos rfl]
  have ho : playOw S L = owV S.es L := by unfold playOw; rw [if_pos ⟨hc, ha⟩]
  exact ⟨hE, ho, by unfold playL; rw [if_pos hE, ho]⟩
theorem settle_facts {S : Slate} {L : List Int} (hc : checkSlate S = 0) (ha : areOz S.es L = true) :
    (∀ x ∈ settleP S L, PayW S.women.toNat x) ∧ (∀ j, owV S.es L j + paysD (settleP S L) j = 0) ∧ Int.ofNat (settleP S L).length = payR S L ∧ (settleP S L).length + mostN (owV S.es L) (openN (owV S.es L)) = pc (openN (owV S.es L)) := by
  obtain ⟨hE, ho, _⟩ := play_facts hc ha
  have hG := good_of_check hc
  have hp : settleP S L = settleA (owV S.es L) := by unfold settleP; rw [if_pos hE, ho]
  obtain ⟨h1, h2, h3⟩ := settleA_law (w := S.women.toNat) (by have := hG.w6; omega) (ow240 hc ha) (ow_zero hc ha) (ow_far hc ha)
  rw [hp]
  refine ⟨h1, h2, ?_, h3⟩
  rw [← payV_same hc ha]
  unfold payV
  have hl : lenOf (bitsOf (openN (owV S.es L))) = pc (openN (owV S.es L)) := rfl
  have := (pc_facts _ (openN_lt (owV S.es L))).1
  simp only [Int.ofNat_eq_natCast]
  rw [hl, fold_sub, wr_in] <;> omega
end Go.Proofs.Ytlhfeiacigmliaa

/- The wash-house's soap: what the functions compute: equal lists, in the heap too. -/
namespace Go.Proofs.Ytlhfeiacigmliaa
open Go
set_option maxRecDepth 10000

/-- A value that reads as a list of numbers. -/
structure RdI (s : St) (x : AVal) (L : List Int) : Prop where
  nrm : x.norm = x
  len : lenV x s = some (i64 (Int.ofNat (lenOf L)), s)
  get : ∀ (i : Nat) (v : Int), L[i]? = some v → ∃ r, idxV 1 x (i64 (Int.ofNat i)) s = some (r, s) ∧ look1 s r = some (i64 v)
end Go.Proofs.Ytlhfeiacigmliaa

/- The wash-house's soap: what the functions compute: payments of the other package, ranges in ranges, slates that are closer. -/
namespace Go.Proofs.Ytlhfeiacigmliaa
open Go
set_option maxRecDepth 10000

theorem l55 (w : Int) (es : List Ent) (ss : List Say) (P : List Pay) (hl : P.length < 1000000) (hP : ∀ x ∈ P, payOk w x = true) (s : St) : ∀ (k i : Nat), i + k = P.length →
   lim tbl (.loop a55_l0 34 ⟨[1, 2, 5], [], [4]⟩ [sl cP P, .vref [i64 w, sl cE es, sl cS ss], i64 (Int.ofNat i)]) s = some (.exit 0, [], s) := by
  intro k
  induction k with
  | zero =>
    intro i hi
    rw [lim_loop]
    obtain ⟨N, O, p, q⟩ := s
    (try simp only [go_sem, ↓reduceIte, Nat.reduceAdd, Nat.reduceEqDiff, Nat.reduceLT, Nat.reduceLeDiff, Nat.reduceBEq, Int.reduceEq, Int.reduceLT, Int.reduceLE]); (repeat ((first | (rw [lt_yes]; rotate_left; (first | omega | (simp [lenOf, app]; omega) | (simp only [lenOf]; omega))) | (rw [lt_no]; rotate_left; (first | omega | (simp [lenOf, app]; omega) | (simp only [lenOf]; omega))) | (rw [idxA_at]; rotate_left; (first | omega | (simp [lenOf, app]; omega) | (simp only [lenOf]; omega))) | (rw [wr_up]; rotate_left; (first | omega | (simp [lenOf, app]; omega) | (simp only [lenOf]; omega))) | ((first | rw [drop_cI] | rw [drop_cE] | rw [drop_cS] | rw [drop_cP] | rw [drop_cR]); rotate_left; assumption)); try simp only [go_sem, ↓reduceIte, Nat.reduceAdd, Nat.reduceEqDiff, Nat.reduceLT, Nat.reduceLeDiff, Nat.reduceBEq, Int.reduceEq, Int.reduceLT, Int.reduceLE]))
  | succ k ih =>
    intro i hi
    have hlt : i < P.length := by omega
    obtain ⟨x, hx, _⟩ := getElem_drop hlt
    have hok := hP x (List.mem_of_getElem? hx)
    obtain ⟨f, t, n⟩ := x
    unfold payOk at hok
    rw [Bool.and_eq_true] at hok
    obtain ⟨o1, o2⟩ := hok
    simp only at o1 o2
    have h' := ih (i + 1) (by omega)
    rw [lim_loop]
    generalize hR : some (_, _, _) = R at h' ⊢
    obtain ⟨N, O, p, q⟩ := s
    (try simp only [go_sem, ↓reduceIte, Nat.reduceAdd, Nat.reduceEqDiff, Nat.reduceLT, Nat.reduceLeDiff, Nat.reduceBEq, Int.reduceEq, Int.reduceLT, Int.reduceLE]); (repeat ((first | rw [o1] | rw [o2] | (rw [lt_yes]; rotate_left; (first | omega | (simp [lenOf, app]; omega) | (simp only [lenOf]; omega))) | (rw [lt_no]; rotate_left; (first | omega | (simp [lenOf, app]; omega) | (simp only [lenOf]; omega))) | (rw [idxA_at]; rotate_left; (first | omega | (simp [lenOf, app]; omega) | (simp only [lenOf]; omega))) | (rw [wr_up]; rotate_left; (first | omega | (simp [lenOf, app]; omega) | (simp only [lenOf]; omega))) | ((first | rw [drop_cI] | rw [drop_cE] | rw [drop_cS] | rw [drop_cP] | rw [drop_cR]); rotate_left; assumption)); try simp only [go_sem, ↓reduceIte, Nat.reduceAdd, Nat.reduceEqDiff, Nat.reduceLT, Nat.reduceLeDiff, Nat.reduceBEq, Int.reduceEq, Int.reduceLT, Int.reduceLE]))
    exact h'
theorem k55 (S : Slate) (P : List Pay) (hl : P.length < 1000000) (hP : ∀ x ∈ P, payOk S.women x = true) (s : St) : lim tbl (.call 55 [vSl S, sl cP P]) s = some (.ret, [.bool true], s) := by
  obtain ⟨w, es, ss⟩ := S
  have h0 := fun s => l55 w es ss P hl hP s P.length 0 (by omega)
  rw [ofNat_0] at h0
  rw [lim_call tbl_55]
  obtain ⟨N, O, p, q⟩ := s
  (try simp only [go_sem, ↓reduceIte, Nat.reduceAdd, Nat.reduceEqDiff, Nat.reduceLT, Nat.reduceLeDiff, Nat.reduceBEq, Int.reduceEq, Int.reduceLT, Int.reduceLE]); (repeat ((first | simp only [h0] | (rw [lt_yes]; rotate_left; (first | omega | (simp [lenOf, app]; omega) | (simp only [lenOf]; omega))) | (rw [lt_no]; rotate_left; (first | omega | (simp [lenOf, app]; omega) | (simp only [lenOf]; omega))) | (rw [idxA_at]; rotate_left; (first | omega | (simp [lenOf, app]; omega) | (simp only [lenOf]; omega))) | (rw [wr_up]; rotate_left; (first | omega | (simp [lenOf, app]; omega) | (simp only [lenOf]; omega))) | ((first | rw [drop_cI] | rw [drop_cE] | rw [drop_cS] | rw [drop_cP] | rw [drop_cR]); rotate_left; assumption)); try simp only [go_sem, ↓reduceIte, Nat.reduceAdd, Nat.reduceEqDiff, Nat.reduceLT, Nat.reduceLeDiff, Nat.reduceBEq, Int.reduceEq, Int.reduceLT, Int.reduceLE]))
theorem l56 (P : List Pay) (hl : P.length < 1000000) (N : Nat) (O : List AObj) (p : Nat) (q : Nat → Nat) : ∀ (k i : Nat) (acc : List Pay), i + k = P.length → acc.length = i →
   lim tbl (.loop a56_l0 31 ⟨[0, 3, 4], [3], []⟩ [sl cP P, ownSl cP p acc, i64 (Int.ofNat i)]) ⟨N, O, roomP p (lenOf acc), roomC p q (lenOf acc)⟩
   = some (.exit 0, [ownSl cP p (app acc (P.drop i))], ⟨N, O, roomP p (lenOf (app acc (P.drop i))), roomC p q (lenOf (app acc (P.drop i)))⟩) := by
  intro k
  induction k with
  | zero =>
    intro i acc hi ha
    rw [List.drop_eq_nil_of_le (by omega), app_nil, lim_loop]
    (try simp only [go_sem, ↓reduceIte, Nat.reduceAdd, Nat.reduceEqDiff, Nat.reduceLT, Nat.reduceLeDiff, Nat.reduceBEq, Int.reduceEq, Int.reduceLT, Int.reduceLE]); (repeat ((first | (rw [lt_yes]; rotate_left; (first | omega | (simp [lenOf, app]; omega) | (simp only [lenOf]; omega))) | (rw [lt_no]; rotate_left; (first | omega | (simp [lenOf, app]; omega) | (simp only [lenOf]; omega))) | (rw [idxA_at]; rotate_left; (first | omega | (simp [lenOf, app]; omega) | (simp only [lenOf]; omega))) | (rw [wr_up]; rotate_left; (first | omega | (simp [lenOf, app]; omega) | (simp only [lenOf]; omega))) | ((first | rw [drop_cI] | rw [drop_cE] | rw [drop_cS] | rw [drop_cP] | rw [drop_cR]); rotate_left; assumption)); try simp only [go_sem, ↓reduceIte, Nat.reduceAdd, Nat.reduceEqDiff, Nat.reduceLT, Nat.reduceLeDiff, Nat.reduceBEq, Int.reduceEq, Int.reduceLT, Int.reduceLE]))
  | succ k ih =>
    intro i acc hi ha
    have hlt : i < P.length := by omega
    obtain ⟨e, he, hd⟩ := getElem_drop hlt
    obtain ⟨f, t, n⟩ := e
    rw [hd, app_assoc]
    have hx := append_own (f := cP) (sz := 3) (fun _ => rfl) 24 p q N O acc ⟨f, t, n⟩ [i64 f, i64 t, i64 n] rfl .full (by omega) (by omega)
    have h' := ih (i + 1) (app acc [⟨f, t, n⟩]) (by omega) (by simp [app]; omega)
    rw [lim_loop]
    generalize hR : some (_, _, _) = R at h' ⊢
    (try simp only [go_sem, ↓reduceIte, Nat.reduceAdd, Nat.reduceEqDiff, Nat.reduceLT, Nat.reduceLeDiff, Nat.reduceBEq, Int.reduceEq, Int.reduceLT, Int.reduceLE]); (repeat ((first | rw [hx] | (rw [lt_yes]; rotate_left; (first | omega | (simp [lenOf, app]; omega) | (simp only [lenOf]; omega))) | (rw [lt_no]; rotate_left; (first | omega | (simp [lenOf, app]; omega) | (simp only [lenOf]; omega))) | (rw [idxA_at]; rotate_left; (first | omega | (simp [lenOf, app]; omega) | (simp only [lenOf]; omega))) | (rw [wr_up]; rotate_left; (first | omega | (simp [lenOf, app]; omega) | (simp only [lenOf]; omega))) | ((first | rw [drop_cI] | rw [drop_cE] | rw [drop_cS] | rw [drop_cP] | rw [drop_cR]); rotate_left; assumption)); try simp only [go_sem, ↓reduceIte, Nat.reduceAdd, Nat.reduceEqDiff, Nat.reduceLT, Nat.reduceLeDiff, Nat.reduceBEq, Int.reduceEq, Int.reduceLT, Int.reduceLE]))
    exact h'
theorem k56 (P : List Pay) (hl : P.length < 1000000) (s : St) : lim tbl (.call 56 [sl cP P]) s = some (.ret, [sl cP P], s) := by
  rw [lim_call tbl_56]; obtain ⟨N, O, p, q⟩ := s
  have h0 := l56 P hl N O p q P.length 0 [] (by omega) rfl
  rw [List.drop_zero, nil_app, ownSl_nil, show lenOf ([] : List Pay) = 0 from rfl, roomP_0, roomC_0, ofNat_0] at h0
  (try simp only [go_sem, ↓reduceIte, Nat.reduceAdd, Nat.reduceEqDiff, Nat.reduceLT, Nat.reduceLeDiff, Nat.reduceBEq, Int.reduceEq, Int.reduceLT, Int.reduceLE]); (repeat ((first | rw [h0] | (rw [lt_yes]; rotate_left; (first | omega | (simp [lenOf, app]; omega) | (simp only [lenOf]; omega))) | (rw [lt_no]; rotate_left; (first | omega | (simp [lenOf, app]; omega) | (simp only [lenOf]; omega))) | (rw [idxA_at]; rotate_left; (first | omega | (simp [lenOf, app]; omega) | (simp only [lenOf]; omega))) | (rw [wr_up]; rotate_left; (first | omega | (simp [lenOf, app]; omega) | (simp only [lenOf]; omega))) | ((first | rw [drop_cI] | rw [drop_cE] | rw [drop_cS] | rw [drop_cP] | rw [drop_cR]); rotate_left; assumption)); try simp only [go_sem, ↓reduceIte, Nat.reduceAdd, Nat.reduceEqDiff, Nat.reduceLT, Nat.reduceLeDiff, Nat.reduceBEq, Int.reduceEq, Int.reduceLT, Int.reduceLE]))
theorem l68 (P : List Pay) (hl : P.length < 1000000) (N : Nat) (O : List AObj) (p : Nat) (q : Nat → Nat) : ∀ (k i : Nat) (acc : List Pay), i + k = P.length → acc.length = i →
   lim tbl (.loop a68_l0 31 ⟨[0, 3, 4], [3], []⟩ [sl cP P, ownSl cP p acc, i64 (Int.ofNat i)]) ⟨N, O, roomP p (lenOf acc), roomC p q (lenOf acc)⟩
   = some (.exit 0, [ownSl cP p (app acc (P.drop i))], ⟨N, O, roomP p (lenOf (app acc (P.drop i))), roomC p q (lenOf (app acc (P.drop i)))⟩) := by
  intro k
  induction k with
  | zero =>
    intro i acc hi ha
    rw [List.drop_eq_nil_of_le (by omega), app_nil, lim_loop]
    (try simp only [go_sem, ↓reduceIte, Nat.reduceAdd, Nat.reduceEqDiff, Nat.reduceLT, Nat.reduceLeDiff, Nat.reduceBEq, Int.reduceEq, Int.reduceLT, Int.reduceLE]); (repeat ((first | (rw [lt_yes]; rotate_left; (first | omega | (simp [lenOf, app]; omega) | (simp only [lenOf]; omega))) | (rw [lt_no]; rotate_left; (first | omega | (simp [lenOf, app]; omega) | (simp only [lenOf]; omega))) | (rw [idxA_at]; rotate_left; (first | omega | (simp [lenOf, app]; omega) | (simp only [lenOf]; omega))) | (rw [wr_up]; rotate_left; (first | omega | (simp [lenOf, app]; omega) | (simp only [lenOf]; omega))) | ((first | rw [drop_cI] | rw [drop_cE] | rw [drop_cS] | rw [drop_cP] | rw [drop_cR]); rotate_left; assumption)); try simp only [go_sem, ↓reduceIte, Nat.reduceAdd, Nat.reduceEqDiff, Nat.reduceLT, Nat.reduceLeDiff, Nat.reduceBEq, Int.reduceEq, Int.reduceLT, Int.reduceLE]))
  | succ k ih =>
    intro i acc hi ha
    have hlt : i < P.length := by omega
    obtain ⟨e, he, hd⟩ := getElem_drop hlt
    obtain ⟨f, t, n⟩ := e
    rw [hd, app_assoc]
    have hx := append_own (f := cP) (sz := 3) (fun _ => rfl) 24 p q N O acc ⟨f, t, n⟩ [i64 f, i64 t, i64 n] rfl .full (by omega) (by omega)
    have h' := ih (i + 1) (app acc [⟨f, t, n⟩]) (by omega) (by simp [app]; omega)
    rw [lim_loop]
    generalize hR : some (_, _, _) = R at h' ⊢
    (try simp only [go_sem, ↓reduceIte, Nat.reduceAdd, Nat.reduceEqDiff, Nat.reduceLT, Nat.reduceLeDiff, Nat.reduceBEq, Int.reduceEq, Int.reduceLT, Int.reduceLE]); (repeat ((first | rw [hx] | (rw [lt_yes]; rotate_left; (first | omega | (simp [lenOf, app]; omega) | (simp only [lenOf]; omega))) | (rw [lt_no]; rotate_left; (first | omega | (simp [lenOf, app]; omega) | (simp only [lenOf]; omega))) | (rw [idxA_at]; rotate_left; (first | omega | (simp [lenOf, app]; omega) | (simp only [lenOf]; omega))) | (rw [wr_up]; rotate_left; (first | omega | (simp [lenOf, app]; omega) | (simp only [lenOf]; omega))) | ((first | rw [drop_cI] | rw [drop_cE] | rw [drop_cS] | rw [drop_cP] | rw [drop_cR]); rotate_left; assumption)); try simp only [go_sem, ↓reduceIte, Nat.reduceAdd, Nat.reduceEqDiff, Nat.reduceLT, Nat.reduceLeDiff, Nat.reduceBEq, Int.reduceEq, Int.reduceLT, Int.reduceLE]))
    exact h'
theorem k68 (P : List Pay) (hl : P.length < 1000000) (s : St) : lim tbl (.call 68 [sl cP P]) s = some (.ret, [sl cP P], s) := by
  rw [lim_call tbl_68]; obtain ⟨N, O, p, q⟩ := s
  have h0 := l68 P hl N O p q P.length 0 [] (by omega) rfl
  rw [List.drop_zero, nil_app, ownSl_nil, show lenOf ([] : List Pay) = 0 from rfl, roomP_0, roomC_0, ofNat_0] at h0
  (try simp only [go_sem, ↓reduceIte, Nat.reduceAdd, Nat.reduceEqDiff, Nat.reduceLT, Nat.reduceLeDiff, Nat.reduceBEq, Int.reduceEq, Int.reduceLT, Int.reduceLE]); (repeat ((first | rw [h0] | (rw [lt_yes]; rotate_left; (first | omega | (simp [lenOf, app]; omega) | (simp only [lenOf]; omega))) | (rw [lt_no]; rotate_left; (first | omega | (simp [lenOf, app]; omega) | (simp only [lenOf]; omega))) | (rw [idxA_at]; rotate_left; (first | omega | (simp [lenOf, app]; omega) | (simp only [lenOf]; omega))) | (rw [wr_up]; rotate_left; (first | omega | (simp [lenOf, app]; omega) | (simp only [lenOf]; omega))) | ((first | rw [drop_cI] | rw [drop_cE] | rw [drop_cS] | rw [drop_cP] | rw [drop_cR]); rotate_left; assumption)); try simp only [go_sem, ↓reduceIte, Nat.reduceAdd, Nat.reduceEqDiff, Nat.reduceLT, Nat.reduceLeDiff, Nat.reduceBEq, Int.reduceEq, Int.reduceLT, Int.reduceLE]))
/-- The first slate's answers are as close as the second one's. -/
structure CloserOk (X S : Slate) : Prop where
  ex : askedErr X = 0
  es : askedErr S = 0
  xl : X.es.length < 1000000 ∧ X.ss.length < 1000000
  sl : S.es.length < 1000000 ∧ S.ss.length < 1000000
  bl : (boundsL X).length < 1000000 ∧ (boundsL X).length = (boundsL S).length
  bo : ∀ (i : Nat) (x y : Rng), (boundsL X)[i]? = some x → (boundsL S)[i]? = some y → y.lo ≤ x.lo ∧ x.hi ≤ y.hi
  ow : ∀ (i : Nat) (x y : Int), ((boundsL S).map owesF)[i]? = some x → ((boundsL X).map owesF)[i]? = some y → x = 3 ∨ x = y
  fw : (fewestP S).1 ≤ (fewestP X).1 ∧ (fewestP X).2 ≤ (fewestP S).2
end Go.Proofs.Ytlhfeiacigmliaa

/- The wash-house's soap: what the functions compute: whether payments settle all, by both packages. -/
namespace Go.Proofs.Ytlhfeiacigmliaa
open Go
set_option maxRecDepth 10000

theorem l55b (w : Int) (es : List Ent) (ss : List Say) (P : List Pay) (hl : P.length < 1000000) (s : St) : ∀ (k i : Nat), i + k = P.length → ∀ R,
   R = (if allB (payOk w) (P.drop i) then some (.exit 0, [], s) else some (.ret, [.bool false], s)) →
   lim tbl (.loop a55_l0 34 ⟨[1, 2, 5], [], [4]⟩ [sl cP P, .vref [i64 w, sl cE es, sl cS ss], i64 (Int.ofNat i)]) s = R := by
  intro k
  induction k with
  | zero =>
    intro i hi R hR
    rw [List.drop_eq_nil_of_le (by omega)] at hR
    simp only [allB, List.all_nil, if_true] at hR
    rw [lim_loop]
    obtain ⟨N, O, p, q⟩ := s
    (try simp only [go_sem, ↓reduceIte, Nat.reduceAdd, Nat.reduceEqDiff, Nat.reduceLT, Nat.reduceLeDiff, Nat.reduceBEq, Int.reduceEq, Int.reduceLT, Int.reduceLE]); (repeat ((first | (rw [lt_yes]; rotate_left; (first | omega | (simp [lenOf, app]; omega) | (simp only [lenOf]; omega))) | (rw [lt_no]; rotate_left; (first | omega | (simp [lenOf, app]; omega) | (simp only [lenOf]; omega))) | (rw [idxA_at]; rotate_left; (first | omega | (simp [lenOf, app]; omega) | (simp only [lenOf]; omega))) | (rw [wr_up]; rotate_left; (first | omega | (simp [lenOf, app]; omega) | (simp only [lenOf]; omega))) | ((first | rw [drop_cI] | rw [drop_cE] | rw [drop_cS] | rw [drop_cP] | rw [drop_cR]); rotate_left; assumption)); try simp only [go_sem, ↓reduceIte, Nat.reduceAdd, Nat.reduceEqDiff, Nat.reduceLT, Nat.reduceLeDiff, Nat.reduceBEq, Int.reduceEq, Int.reduceLT, Int.reduceLE]))
    exact hR.symm
  | succ k ih =>
    intro i hi R hR
    have hlt : i < P.length := by omega
    obtain ⟨x, hx, hd⟩ := getElem_drop hlt
    have h' := ih (i + 1) (by omega) R
    obtain ⟨f, t, n⟩ := x
    have hA : allB (payOk w) (⟨f, t, n⟩ :: P.drop (i + 1)) = (pair w f t && within n 1 240 && allB (payOk w) (P.drop (i + 1))) := by simp [allB, payOk]
    rw [hd, hA] at hR
    rw [lim_loop]
    obtain ⟨N, O, p, q⟩ := s
    cases o1 : pair w f t with
    | false =>
      rw [o1] at hR
      simp only [Bool.false_and, Bool.false_eq_true, if_false] at hR
      (try simp only [go_sem, ↓reduceIte, Nat.reduceAdd, Nat.reduceEqDiff, Nat.reduceLT, Nat.reduceLeDiff, Nat.reduceBEq, Int.reduceEq, Int.reduceLT, Int.reduceLE]); (repeat ((first | rw [o1] | (rw [lt_yes]; rotate_left; (first | omega | (simp [lenOf, app]; omega) | (simp only [lenOf]; omega))) | (rw [lt_no]; rotate_left; (first | omega | (simp [lenOf, app]; omega) | (simp only [lenOf]; omega))) | (rw [idxA_at]; rotate_left; (first | omega | (simp [lenOf, app]; omega) | (simp only [lenOf]; omega))) | (rw [wr_up]; rotate_left; (first | omega | (simp [lenOf, app]; omega) | (simp only [lenOf]; omega))) | ((first | rw [drop_cI] | rw [drop_cE] | rw [drop_cS] | rw [drop_cP] | rw [drop_cR]); rotate_left; assumption)); try simp only [go_sem, ↓reduceIte, Nat.reduceAdd, Nat.reduceEqDiff, Nat.reduceLT, Nat.reduceLeDiff, Nat.reduceBEq, Int.reduceEq, Int.reduceLT, Int.reduceLE]))
      exact hR.symm
    | true =>
      cases o2 : within n 1 240 with
      | false =>
        rw [o1, o2] at hR
        simp only [Bool.and_false, Bool.false_and, Bool.false_eq_true, if_false] at hR
        (try simp only [go_sem, ↓reduceIte, Nat.reduceAdd, Nat.reduceEqDiff, Nat.reduceLT, Nat.reduceLeDiff, Nat.reduceBEq, Int.reduceEq, Int.reduceLT, Int.reduceLE]); (repeat ((first | rw [o1] | rw [o2] | (rw [lt_yes]; rotate_left; (first | omega | (simp [lenOf, app]; omega) | (simp only [lenOf]; omega))) | (rw [lt_no]; rotate_left; (first | omega | (simp [lenOf, app]; omega) | (simp only [lenOf]; omega))) | (rw [idxA_at]; rotate_left; (first | omega | (simp [lenOf, app]; omega) | (simp only [lenOf]; omega))) | (rw [wr_up]; rotate_left; (first | omega | (simp [lenOf, app]; omega) | (simp only [lenOf]; omega))) | ((first | rw [drop_cI] | rw [drop_cE] | rw [drop_cS] | rw [drop_cP] | rw [drop_cR]); rotate_left; assumption)); try simp only [go_sem, ↓reduceIte, Nat.reduceAdd, Nat.reduceEqDiff, Nat.reduceLT, Nat.reduceLeDiff, Nat.reduceBEq, Int.reduceEq, Int.reduceLT, Int.reduceLE]))
        exact hR.symm
      | true =>
        rw [o1, o2] at hR
        simp only [Bool.true_and] at hR
        (try simp only [go_sem, ↓reduceIte, Nat.reduceAdd, Nat.reduceEqDiff, Nat.reduceLT, Nat.reduceLeDiff, Nat.reduceBEq, Int.reduceEq, Int.reduceLT, Int.reduceLE]); (repeat ((first | rw [o1] | rw [o2] | (rw [lt_yes]; rotate_left; (first | omega | (simp [lenOf, app]; omega) | (simp only [lenOf]; omega))) | (rw [lt_no]; rotate_left; (first | omega | (simp [lenOf, app]; omega) | (simp only [lenOf]; omega))) | (rw [idxA_at]; rotate_left; (first | omega | (simp [lenOf, app]; omega) | (simp only [lenOf]; omega))) | (rw [wr_up]; rotate_left; (first | omega | (simp [lenOf, app]; omega) | (simp only [lenOf]; omega))) | ((first | rw [drop_cI] | rw [drop_cE] | rw [drop_cS] | rw [drop_cP] | rw [drop_cR]); rotate_left; assumption)); try simp only [go_sem, ↓reduceIte, Nat.reduceAdd, Nat.reduceEqDiff, Nat.reduceLT, Nat.reduceLeDiff, Nat.reduceBEq, Int.reduceEq, Int.reduceLT, Int.reduceLE]))
        exact h' hR
theorem k55b (S : Slate) (P : List Pay) (hl : P.length < 1000000) (s : St) : lim tbl (.call 55 [vSl S, sl cP P]) s = some (.ret, [.bool (allB (payOk S.women) P)], s) := by
  obtain ⟨w, es, ss⟩ := S
  have h0 := fun s => l55b w es ss P hl s P.length 0 (by omega) _ rfl
  rw [ofNat_0, List.drop_zero] at h0
  rw [lim_call tbl_55]
  obtain ⟨N, O, p, q⟩ := s
  simp only
  cases hb : allB (payOk w) P with
  | true =>
    rw [hb] at h0; simp only [if_true] at h0
    (try simp only [go_sem, ↓reduceIte, Nat.reduceAdd, Nat.reduceEqDiff, Nat.reduceLT, Nat.reduceLeDiff, Nat.reduceBEq, Int.reduceEq, Int.reduceLT, Int.reduceLE]); (repeat ((first | simp only [h0] | (rw [lt_yes]; rotate_left; (first | omega | (simp [lenOf, app]; omega) | (simp only [lenOf]; omega))) | (rw [lt_no]; rotate_left; (first | omega | (simp [lenOf, app]; omega) | (simp only [lenOf]; omega))) | (rw [idxA_at]; rotate_left; (first | omega | (simp [lenOf, app]; omega) | (simp only [lenOf]; omega))) | (rw [wr_up]; rotate_left; (first | omega | (simp [lenOf, app]; omega) | (simp only [lenOf]; omega))) | ((first | rw [drop_cI] | rw [drop_cE] | rw [drop_cS] | rw [drop_cP] | rw [drop_cR]); rotate_left; assumption)); try simp only [go_sem, ↓reduceIte, Nat.reduceAdd, Nat.reduceEqDiff, Nat.reduceLT, Nat.reduceLeDiff, Nat.reduceBEq, Int.reduceEq, Int.reduceLT, Int.reduceLE]))
  | false =>
    rw [hb] at h0; simp only [Bool.false_eq_true, if_false] at h0
    (try simp only [go_sem, ↓reduceIte, Nat.reduceAdd, Nat.reduceEqDiff, Nat.reduceLT, Nat.reduceLeDiff, Nat.reduceBEq, Int.reduceEq, Int.reduceLT, Int.reduceLE]); (repeat ((first | simp only [h0] | (rw [lt_yes]; rotate_left; (first | omega | (simp [lenOf, app]; omega) | (simp only [lenOf]; omega))) | (rw [lt_no]; rotate_left; (first | omega | (simp [lenOf, app]; omega) | (simp only [lenOf]; omega))) | (rw [idxA_at]; rotate_left; (first | omega | (simp [lenOf, app]; omega) | (simp only [lenOf]; omega))) | (rw [wr_up]; rotate_left; (first | omega | (simp [lenOf, app]; omega) | (simp only [lenOf]; omega))) | ((first | rw [drop_cI] | rw [drop_cE] | rw [drop_cS] | rw [drop_cP] | rw [drop_cR]); rotate_left; assumption)); try simp only [go_sem, ↓reduceIte, Nat.reduceAdd, Nat.reduceEqDiff, Nat.reduceLT, Nat.reduceLeDiff, Nat.reduceBEq, Int.reduceEq, Int.reduceLT, Int.reduceLE]))
/-- What is owed after payments. -/
def setUp (w : Int) : Int → List Pay → Int
  | n, [] => n
  | n, x :: l => setUp w (if x.to = w then wr .i64 (Int.sub (if x.fr = w then wr .i64 (Int.add n x.oz) else n) x.oz) else (if x.fr = w then wr .i64 (Int.add n x.oz) else n)) l
theorem l69_0 (w : Int) (es : List Ent) (ss : List Say) (L : List Int) (P : List Pay) (hl : P.length < 1000000) (u : Int) (s : St) : ∀ (k i : Nat) (n : Int), i + k = P.length →
   lim tbl (.loop a69_l0 56 ⟨[1, 2, 3, 7, 8, 9], [1, 2, 3, 7, 8], []⟩ [sl cI L, sl cP P, .vref [i64 w, sl cE es, sl cS ss], i64 u, i64 n, i64 (Int.ofNat i)]) s
     = some (.exit 2, [sl cI L, sl cP P, .vref [i64 w, sl cE es, sl cS ss], i64 u, i64 (setUp u n (P.drop i))], s) := by
  intro k
  induction k with
  | zero =>
    intro i n hi
    rw [List.drop_eq_nil_of_le (by omega), setUp, lim_loop]
    obtain ⟨N, O, p, q⟩ := s
    (try simp only [go_sem, ↓reduceIte, Nat.reduceAdd, Nat.reduceEqDiff, Nat.reduceLT, Nat.reduceLeDiff, Nat.reduceBEq, Int.reduceEq, Int.reduceLT, Int.reduceLE]); (repeat ((first | (rw [lt_yes]; rotate_left; (first | omega | (simp [lenOf, app]; omega) | (simp only [lenOf]; omega))) | (rw [lt_no]; rotate_left; (first | omega | (simp [lenOf, app]; omega) | (simp only [lenOf]; omega))) | (rw [idxA_at]; rotate_left; (first | omega | (simp [lenOf, app]; omega) | (simp only [lenOf]; omega))) | (rw [wr_up]; rotate_left; (first | omega | (simp [lenOf, app]; omega) | (simp only [lenOf]; omega))) | ((first | rw [drop_cI] | rw [drop_cE] | rw [drop_cS] | rw [drop_cP] | rw [drop_cR]); rotate_left; assumption)); try simp only [go_sem, ↓reduceIte, Nat.reduceAdd, Nat.reduceEqDiff, Nat.reduceLT, Nat.reduceLeDiff, Nat.reduceBEq, Int.reduceEq, Int.reduceLT, Int.reduceLE]))
  | succ k ih =>
    intro i n hi
    have hlt : i < P.length := by omega
    obtain ⟨x, hx, hd⟩ := getElem_drop hlt
    obtain ⟨f, t, z⟩ := x
    rw [hd, setUp]
    simp only
    rw [lim_loop]
    by_cases h1 : f = u
    · by_cases h2 : t = u
      · have h' := ih (i + 1) (wr .i64 (Int.sub (wr .i64 (Int.add n z)) z)) (by omega)
        simp only [h1, h2, if_true] at h' ⊢
        generalize hR : some (_, _, _) = R at h' ⊢
        obtain ⟨N, O, p, q⟩ := s
        (try simp only [go_sem, ↓reduceIte, Nat.reduceAdd, Nat.reduceEqDiff, Nat.reduceLT, Nat.reduceLeDiff, Nat.reduceBEq, Int.reduceEq, Int.reduceLT, Int.reduceLE]); (repeat ((first | rw [eq_y h1] | rw [eq_y h2] | (rw [lt_yes]; rotate_left; (first | omega | (simp [lenOf, app]; omega) | (simp only [lenOf]; omega))) | (rw [lt_no]; rotate_left; (first | omega | (simp [lenOf, app]; omega) | (simp only [lenOf]; omega))) | (rw [idxA_at]; rotate_left; (first | omega | (simp [lenOf, app]; omega) | (simp only [lenOf]; omega))) | (rw [wr_up]; rotate_left; (first | omega | (simp [lenOf, app]; omega) | (simp only [lenOf]; omega))) | ((first | rw [drop_cI] | rw [drop_cE] | rw [drop_cS] | rw [drop_cP] | rw [drop_cR]); rotate_left; assumption)); try simp only [go_sem, ↓reduceIte, Nat.reduceAdd, Nat.reduceEqDiff, Nat.reduceLT, Nat.reduceLeDiff, Nat.reduceBEq, Int.reduceEq, Int.reduceLT, Int.reduceLE]))
        exact h'
      · have h' := ih (i + 1) (wr .i64 (Int.add n z)) (by omega)
        simp only [h1, h2, if_true, if_false] at h' ⊢
        generalize hR : some (_, _, _) = R at h' ⊢
        obtain ⟨N, O, p, q⟩ := s
        (try simp only [go_sem, ↓reduceIte, Nat.reduceAdd, Nat.reduceEqDiff, Nat.reduceLT, Nat.reduceLeDiff, Nat.reduceBEq, Int.reduceEq, Int.reduceLT, Int.reduceLE]); (repeat ((first | rw [eq_y h1] | rw [eq_n h2] | (rw [lt_yes]; rotate_left; (first | omega | (simp [lenOf, app]; omega) | (simp only [lenOf]; omega))) | (rw [lt_no]; rotate_left; (first | omega | (simp [lenOf, app]; omega) | (simp only [lenOf]; omega))) | (rw [idxA_at]; rotate_left; (first | omega | (simp [lenOf, app]; omega) | (simp only [lenOf]; omega))) | (rw [wr_up]; rotate_left; (first | omega | (simp [lenOf, app]; omega) | (simp only [lenOf]; omega))) | ((first | rw [drop_cI] | rw [drop_cE] | rw [drop_cS] | rw [drop_cP] | rw [drop_cR]); rotate_left; assumption)); try simp only [go_sem, ↓reduceIte, Nat.reduceAdd, Nat.reduceEqDiff, Nat.reduceLT, Nat.reduceLeDiff, Nat.reduceBEq, Int.reduceEq, Int.reduceLT, Int.reduceLE]))
        exact h'
    · by_cases h2 : t = u
      · have h' := ih (i + 1) (wr .i64 (Int.sub n z)) (by omega)
        simp only [h1, h2, if_true, if_false] at h' ⊢
        generalize hR : some (_, _, _) = R at h' ⊢
        obtain ⟨N, O, p, q⟩ := s
        (try simp only [go_sem, ↓reduceIte, Nat.reduceAdd, Nat.reduceEqDiff, Nat.reduceLT, Nat.reduceLeDiff, Nat.reduceBEq, Int.reduceEq, Int.reduceLT, Int.reduceLE]); (repeat ((first | rw [eq_n h1] | rw [eq_y h2] | (rw [lt_yes]; rotate_left; (first | omega | (simp [lenOf, app]; omega) | (simp only [lenOf]; omega))) | (rw [lt_no]; rotate_left; (first | omega | (simp [lenOf, app]; omega) | (simp only [lenOf]; omega))) | (rw [idxA_at]; rotate_left; (first | omega | (simp [lenOf, app]; omega) | (simp only [lenOf]; omega))) | (rw [wr_up]; rotate_left; (first | omega | (simp [lenOf, app]; omega) | (simp only [lenOf]; omega))) | ((first | rw [drop_cI] | rw [drop_cE] | rw [drop_cS] | rw [drop_cP] | rw [drop_cR]); rotate_left; assumption)); try simp only [go_sem, ↓reduceIte, Nat.reduceAdd, Nat.reduceEqDiff, Nat.reduceLT, Nat.reduceLeDiff, Nat.reduceBEq, Int.reduceEq, Int.reduceLT, Int.reduceLE]))
        exact h'
      · have h' := ih (i + 1) n (by omega)
        simp only [h1, h2, if_false] at h' ⊢
        generalize hR : some (_, _, _) = R at h' ⊢
        obtain ⟨N, O, p, q⟩ := s
        (try simp only [go_sem, ↓reduceIte, Nat.reduceAdd, Nat.reduceEqDiff, Nat.reduceLT, Nat.reduceLeDiff, Nat.reduceBEq, Int.reduceEq, Int.reduceLT, Int.reduceLE]); (repeat ((first | rw [eq_n h1] | rw [eq_n h2] | (rw [lt_yes]; rotate_left; (first | omega | (simp [lenOf, app]; omega) | (simp only [lenOf]; omega))) | (rw [lt_no]; rotate_left; (first | omega | (simp [lenOf, app]; omega) | (simp only [lenOf]; omega))) | (rw [idxA_at]; rotate_left; (first | omega | (simp [lenOf, app]; omega) | (simp only [lenOf]; omega))) | (rw [wr_up]; rotate_left; (first | omega | (simp [lenOf, app]; omega) | (simp only [lenOf]; omega))) | ((first | rw [drop_cI] | rw [drop_cE] | rw [drop_cS] | rw [drop_cP] | rw [drop_cR]); rotate_left; assumption)); try simp only [go_sem, ↓reduceIte, Nat.reduceAdd, Nat.reduceEqDiff, Nat.reduceLT, Nat.reduceLeDiff, Nat.reduceBEq, Int.reduceEq, Int.reduceLT, Int.reduceLE]))
        exact h'
def zeroAt (es : List Ent) (L : List Int) (P : List Pay) (j : Nat) : Bool := decide (setUp (Int.ofNat j) (owedUp 0 (Int.ofNat j) es L) P = 0)
theorem l69_1 (n : Nat) (hn : n ≤ 6) (es : List Ent) (ss : List Say) (L : List Int) (hE : es.length < 1000000) (hL : L.length = es.length) (P : List Pay) (hl : P.length < 1000000) (s : St) : ∀ (k i : Nat), i + k = n → ∀ R,
   R = (if (List.range' i k).all (zeroAt es L P) then some (.exit 0, [], s) else some (.ret, [.bool false], s)) →
   lim tbl (.loop a69_l1 56 ⟨[1, 2, 3, 7], [], [6]⟩ [sl cI L, sl cP P, .vref [i64 (Int.ofNat n), sl cE es, sl cS ss], i64 (Int.ofNat i)]) s = R := by
  intro k
  induction k with
  | zero =>
    intro i hi R hR
    simp only [List.range'_zero, List.all_nil, if_true] at hR
    rw [lim_loop]
    obtain ⟨N, O, p, q⟩ := s
    (try simp only [go_sem, ↓reduceIte, Nat.reduceAdd, Nat.reduceEqDiff, Nat.reduceLT, Nat.reduceLeDiff, Nat.reduceBEq, Int.reduceEq, Int.reduceLT, Int.reduceLE]); (repeat ((first | (rw [lt_yes]; rotate_left; (first | omega | (simp [lenOf, app]; omega) | (simp only [lenOf]; omega))) | (rw [lt_no]; rotate_left; (first | omega | (simp [lenOf, app]; omega) | (simp only [lenOf]; omega))) | (rw [idxA_at]; rotate_left; (first | omega | (simp [lenOf, app]; omega) | (simp only [lenOf]; omega))) | (rw [wr_up]; rotate_left; (first | omega | (simp [lenOf, app]; omega) | (simp only [lenOf]; omega))) | ((first | rw [drop_cI] | rw [drop_cE] | rw [drop_cS] | rw [drop_cP] | rw [drop_cR]); rotate_left; assumption)); try simp only [go_sem, ↓reduceIte, Nat.reduceAdd, Nat.reduceEqDiff, Nat.reduceLT, Nat.reduceLeDiff, Nat.reduceBEq, Int.reduceEq, Int.reduceLT, Int.reduceLE]))
    exact hR.symm
  | succ k ih =>
    intro i hi R hR
    have h' := ih (i + 1) (by omega) R
    have h48 := fun s => k48 ⟨Int.ofNat n, es, ss⟩ L (Int.ofNat i) hE hL s
    simp only at h48
    have h0 := fun s => l69_0 (Int.ofNat n) es ss L P hl (Int.ofNat i) s P.length 0 (owedUp 0 (Int.ofNat i) es L) (by omega)
    rw [ofNat_0, List.drop_zero] at h0
    rw [List.range'_succ, List.all_cons] at hR
    have hz : zeroAt es L P i = decide (setUp (Int.ofNat i) (owedUp 0 (Int.ofNat i) es L) P = 0) := rfl
    generalize owedUp 0 (Int.ofNat i) es L = v at h48 h0 hz
    rw [lim_loop]
    obtain ⟨N, O, p, q⟩ := s
    by_cases h1 : setUp (Int.ofNat i) v P = 0
    · rw [hz, decide_eq_true h1, Bool.true_and] at hR
      rw [h1] at h0
      (try simp only [go_sem, ↓reduceIte, Nat.reduceAdd, Nat.reduceEqDiff, Nat.reduceLT, Nat.reduceLeDiff, Nat.reduceBEq, Int.reduceEq, Int.reduceLT, Int.reduceLE]); (repeat ((first | simp only [h48] | simp only [h0] | (rw [lt_yes]; rotate_left; (first | omega | (simp [lenOf, app]; omega) | (simp only [lenOf]; omega))) | (rw [lt_no]; rotate_left; (first | omega | (simp [lenOf, app]; omega) | (simp only [lenOf]; omega))) | (rw [idxA_at]; rotate_left; (first | omega | (simp [lenOf, app]; omega) | (simp only [lenOf]; omega))) | (rw [wr_up]; rotate_left; (first | omega | (simp [lenOf, app]; omega) | (simp only [lenOf]; omega))) | ((first | rw [drop_cI] | rw [drop_cE] | rw [drop_cS] | rw [drop_cP] | rw [drop_cR]); rotate_left; assumption)); try simp only [go_sem, ↓reduceIte, Nat.reduceAdd, Nat.reduceEqDiff, Nat.reduceLT, Nat.reduceLeDiff, Nat.reduceBEq, Int.reduceEq, Int.reduceLT, Int.reduceLE]))
      exact h' hR
    · rw [hz, decide_eq_false h1] at hR
      simp only [Bool.false_and, Bool.false_eq_true, if_false] at hR
      generalize setUp (Int.ofNat i) v P = y at h0 h1
      (try simp only [go_sem, ↓reduceIte, Nat.reduceAdd, Nat.reduceEqDiff, Nat.reduceLT, Nat.reduceLeDiff, Nat.reduceBEq, Int.reduceEq, Int.reduceLT, Int.reduceLE]); (repeat ((first | simp only [h48] | simp only [h0] | rw [eq_n h1] | (rw [lt_yes]; rotate_left; (first | omega | (simp [lenOf, app]; omega) | (simp only [lenOf]; omega))) | (rw [lt_no]; rotate_left; (first | omega | (simp [lenOf, app]; omega) | (simp only [lenOf]; omega))) | (rw [idxA_at]; rotate_left; (first | omega | (simp [lenOf, app]; omega) | (simp only [lenOf]; omega))) | (rw [wr_up]; rotate_left; (first | omega | (simp [lenOf, app]; omega) | (simp only [lenOf]; omega))) | ((first | rw [drop_cI] | rw [drop_cE] | rw [drop_cS] | rw [drop_cP] | rw [drop_cR]); rotate_left; assumption)); try simp only [go_sem, ↓reduceIte, Nat.reduceAdd, Nat.reduceEqDiff, Nat.reduceLT, Nat.reduceLeDiff, Nat.reduceBEq, Int.reduceEq, Int.reduceLT, Int.reduceLE]))
      exact hR.symm
/-- Whether payments settle all, by the document. -/
def settlesR (S : Slate) (L : List Int) (P : List Pay) : Bool := (List.range' 0 S.women.toNat).all (zeroAt S.es L P)
theorem k69 (S : Slate) (L : List Int) (P : List Pay) (h0 : 0 ≤ S.women) (h6 : S.women ≤ 6) (hE : S.es.length < 1000000) (hL : L.length = S.es.length) (hl : P.length < 1000000) (s : St) : lim tbl (.call 69 [vSl S, sl cI L, sl cP P]) s = some (.ret, [.bool (settlesR S L P)], s) := by
  obtain ⟨w, es, ss⟩ := S
  simp only at h0 h6 hE hL
  obtain ⟨n, rfl⟩ : ∃ n : Nat, w = Int.ofNat n := ⟨w.toNat, by simp; omega⟩
  have hn : n ≤ 6 := by change (n : Int) ≤ 6 at h6; omega
  have h1 := fun s => l69_1 n hn es ss L hE hL P hl s n 0 (by omega) _ rfl
  rw [ofNat_0] at h1
  rw [lim_call tbl_69]
  obtain ⟨N, O, p, q⟩ := s
  cases hb : settlesR ⟨Int.ofNat n, es, ss⟩ L P with
  | true =>
    unfold settlesR at hb
    rw [show (⟨Int.ofNat n, es, ss⟩ : Slate).women.toNat = n from rfl] at hb
    rw [hb] at h1; simp only [if_true] at h1
    (try simp only [go_sem, ↓reduceIte, Nat.reduceAdd, Nat.reduceEqDiff, Nat.reduceLT, Nat.reduceLeDiff, Nat.reduceBEq, Int.reduceEq, Int.reduceLT, Int.reduceLE]); (repeat ((first | simp only [h1] | (rw [lt_yes]; rotate_left; (first | omega | (simp [lenOf, app]; omega) | (simp only [lenOf]; omega))) | (rw [lt_no]; rotate_left; (first | omega | (simp [lenOf, app]; omega) | (simp only [lenOf]; omega))) | (rw [idxA_at]; rotate_left; (first | omega | (simp [lenOf, app]; omega) | (simp only [lenOf]; omega))) | (rw [wr_up]; rotate_left; (first | omega | (simp [lenOf, app]; omega) | (simp only [lenOf]; omega))) | ((first | rw [drop_cI] | rw [drop_cE] | rw [drop_cS] | rw [drop_cP] | rw [drop_cR]); rotate_left; assumption)); try simp only [go_sem, ↓reduceIte, Nat.reduceAdd, Nat.reduceEqDiff, Nat.reduceLT, Nat.reduceLeDiff, Nat.reduceBEq, Int.reduceEq, Int.reduceLT, Int.reduceLE]))
  | false =>
    unfold settlesR at hb
    rw [show (⟨Int.ofNat n, es, ss⟩ : Slate).women.toNat = n from rfl] at hb
    rw [hb] at h1; simp only [Bool.false_eq_true, if_false] at h1
    (try simp only [go_sem, ↓reduceIte, Nat.reduceAdd, Nat.reduceEqDiff, Nat.reduceLT, Nat.reduceLeDiff, Nat.reduceBEq, Int.reduceEq, Int.reduceLT, Int.reduceLE]); (repeat ((first | simp only [h1] | (rw [lt_yes]; rotate_left; (first | omega | (simp [lenOf, app]; omega) | (simp only [lenOf]; omega))) | (rw [lt_no]; rotate_left; (first | omega | (simp [lenOf, app]; omega) | (simp only [lenOf]; omega))) | (rw [idxA_at]; rotate_left; (first | omega | (simp [lenOf, app]; omega) | (simp only [lenOf]; omega))) | (rw [wr_up]; rotate_left; (first | omega | (simp [lenOf, app]; omega) | (simp only [lenOf]; omega))) | ((first | rw [drop_cI] | rw [drop_cE] | rw [drop_cS] | rw [drop_cP] | rw [drop_cR]); rotate_left; assumption)); try simp only [go_sem, ↓reduceIte, Nat.reduceAdd, Nat.reduceEqDiff, Nat.reduceLT, Nat.reduceLeDiff, Nat.reduceBEq, Int.reduceEq, Int.reduceLT, Int.reduceLE]))

def OkFP (P : List Pay) : Prop := ∀ x ∈ P, ∃ f t : Nat, f < 6 ∧ t < 6 ∧ x.fr = Int.ofNat f ∧ x.to = Int.ofNat t
theorem l67 (P : List Pay) (hP : P.length < 1000000) (hF : OkFP P) (N : Nat) (O : List AObj) (p : Nat) (q : Nat → Nat) : ∀ (k i : Nat) (a : Nat → Int) (M : Nat) (Q : List AObj), i + k = P.length → Under N O (.cells (c6 a)) M Q →
   ∃ M' Q', Under N O (.cells (c6 fun j => setUp (Int.ofNat j) (a j) (P.drop i))) M' Q' ∧
   lim tbl (.loop a67_l0 60 ⟨[9, 34, 35, 36], [9], []⟩ [.ptr N 0, sl cP P, i64 (Int.ofNat (lenOf P)), i64 (Int.ofNat i)]) ⟨M, Q, p, q⟩ = some (.exit 0, [.ptr N 0], ⟨M', Q', p, q⟩) := by
  intro k
  induction k with
  | zero =>
    intro i a M Q hi hU
    refine ⟨M, Q, ?_, ?_⟩
    · rw [List.drop_eq_nil_of_le (by omega)]; exact hU
    · rw [lim_loop]
      (try simp only [go_sem, ↓reduceIte, Nat.reduceAdd, Nat.reduceEqDiff, Nat.reduceLT, Nat.reduceLeDiff, Nat.reduceBEq, Int.reduceEq, Int.reduceLT, Int.reduceLE]); (repeat ((first | (rw [lt_yes]; rotate_left; (first | omega | (simp [lenOf, app]; omega) | (simp only [lenOf]; omega))) | (rw [lt_no]; rotate_left; (first | omega | (simp [lenOf, app]; omega) | (simp only [lenOf]; omega))) | (rw [idxA_at]; rotate_left; (first | omega | (simp [lenOf, app]; omega) | (simp only [lenOf]; omega))) | (rw [wr_up]; rotate_left; (first | omega | (simp [lenOf, app]; omega) | (simp only [lenOf]; omega))) | ((first | rw [drop_cI] | rw [drop_cE] | rw [drop_cS] | rw [drop_cP] | rw [drop_cR]); rotate_left; assumption)); try simp only [go_sem, ↓reduceIte, Nat.reduceAdd, Nat.reduceEqDiff, Nat.reduceLT, Nat.reduceLeDiff, Nat.reduceBEq, Int.reduceEq, Int.reduceLT, Int.reduceLE]))
  | succ k ih =>
    intro i a M Q hi hU
    have hlt : i < P.length := by omega
    obtain ⟨e, he, hd⟩ := getElem_drop hlt
    obtain ⟨f, t, hf, ht, h1, h2⟩ := hF e (List.mem_of_getElem? he)
    obtain ⟨fr, to, x⟩ := e
    simp only at h1 h2
    subst h1 h2
    rw [hd]
    have g1 := hU.get1 (.cells [i64 (Int.ofNat f), i64 (Int.ofNat t), i64 x]) p q
    obtain ⟨Q1, hU1, _, s1⟩ := hU.set (.cells (c6 (put a f (wr .i64 (Int.add (a f) x)))))
    have g2 := hU1.get1 (.cells [i64 (Int.ofNat f), i64 (Int.ofNat t), i64 x]) p q
    obtain ⟨Q2, hU2, _, s2⟩ := hU1.set (.cells (c6 (put (put a f (wr .i64 (Int.add (a f) x))) t (wr .i64 (Int.sub (put a f (wr .i64 (Int.add (a f) x)) t) x)))))
    obtain ⟨M', Q', hU', h'⟩ := ih (i + 1) _ _ _ (by omega) (hU2.push (.cells [i64 (Int.ofNat f), i64 (Int.ofNat t), i64 x]))
    refine ⟨M', Q', ?_, ?_⟩
    · have : (fun j => setUp (Int.ofNat j) (put (put a f (wr .i64 (Int.add (a f) x))) t (wr .i64 (Int.sub (put a f (wr .i64 (Int.add (a f) x)) t) x)) j) (P.drop (i + 1)))
        = (fun j => setUp (Int.ofNat j) (a j) (⟨Int.ofNat f, Int.ofNat t, x⟩ :: P.drop (i + 1))) := by
        funext j
        rw [setUp]
        simp only [put, Int.ofNat.injEq]
        congr 1
        by_cases hj1 : j = t
        · subst hj1
          by_cases hj2 : j = f
          · subst hj2; simp
          · simp [hj2, Ne.symm hj2]
        · by_cases hj2 : j = f
          · subst hj2; simp [hj1, Ne.symm hj1]
          · simp [hj1, hj2, Ne.symm hj1, Ne.symm hj2]
      rw [← this]; exact hU'
    · rw [lim_loop]
      generalize hR : some (_, _, _) = R at h' ⊢
      have n1 := nthO_c6 a hf
      have n2 := nthO_c6 (put a f (wr .i64 (Int.add (a f) x))) ht
      have p1 := fun s b => storeP_c6_1 s b a (wr .i64 (Int.add (a f) x)) hf
      have p2 := fun s b => storeP_c6_1 s b (put a f (wr .i64 (Int.add (a f) x))) (wr .i64 (Int.sub (put a f (wr .i64 (Int.add (a f) x)) t) x)) ht
      (try simp only [go_sem, ↓reduceIte, Nat.reduceAdd, Nat.reduceEqDiff, Nat.reduceLT, Nat.reduceLeDiff, Nat.reduceBEq, Int.reduceEq, Int.reduceLT, Int.reduceLE]); (repeat ((first | rw [g1] | rw [n1] | rw [p1] | rw [s1] | rw [g2] | rw [n2] | rw [p2] | rw [s2] | (rw [lt_yes]; rotate_left; (first | omega | (simp [lenOf, app]; omega) | (simp only [lenOf]; omega))) | (rw [lt_no]; rotate_left; (first | omega | (simp [lenOf, app]; omega) | (simp only [lenOf]; omega))) | (rw [idxA_at]; rotate_left; (first | omega | (simp [lenOf, app]; omega) | (simp only [lenOf]; omega))) | (rw [wr_up]; rotate_left; (first | omega | (simp [lenOf, app]; omega) | (simp only [lenOf]; omega))) | ((first | rw [drop_cI] | rw [drop_cE] | rw [drop_cS] | rw [drop_cP] | rw [drop_cR]); rotate_left; assumption)); try simp only [go_sem, ↓reduceIte, Nat.reduceAdd, Nat.reduceEqDiff, Nat.reduceLT, Nat.reduceLeDiff, Nat.reduceBEq, Int.reduceEq, Int.reduceLT, Int.reduceLE]))
      exact h'
def proveS (S : Slate) (L : List Int) (P : List Pay) (many : Int) : Bool :=
  decide (playErr S L = 0) && (decide (Int.ofNat (lenOf P) ≤ many) && (allB (payOk S.women) P && eq6 (fun j => setUp (Int.ofNat j) (playOw S L j) P) (fun _ => 0)))
theorem pay_women {w : Int} (h6 : w ≤ 6) {P : List Pay} (h : allB (payOk w) P = true) (hw0 : 0 ≤ w) : OkFP P := by
  intro x hx
  simp only [allB, List.all_eq_true] at h
  have := h x hx
  have hwr : wr .i64 (w - 1) = w - 1 := wr_in (by omega) (by omega)
  simp only [payOk, pair, woman, hwr, Bool.and_eq_true, within_iff] at this
  obtain ⟨⟨⟨a1, a2⟩, ⟨b1, b2⟩, _⟩, _⟩ := this
  exact ⟨x.fr.toNat, x.to.toNat, by omega, by omega, by simp; omega, by simp; omega⟩
theorem eq6_z (a : Nat → Int) : eqCells [0, 0, 0, 0, 0, 0] (c6 a) [i64 0, i64 0, i64 0, i64 0, i64 0, i64 0] = some (eq6 a fun _ => 0) := eqCells_c6 a fun _ => 0
theorem k67 (S : Slate) (L : List Int) (P : List Pay) (many : Int) (hP : P.length < 1000000) (s : St) : lim tbl (.call 67 [vSl S, sl cI L, sl cP P, i64 many]) s = some (.ret, [.bool (proveS S L P many)], s) := by
  have h79 := fun s => k79 S L good_of_check s
  rw [lim_call tbl_67]
  obtain ⟨N, O, p, q⟩ := s
  generalize hR : proveS S L P many = R
  unfold proveS at hR
  by_cases he : playErr S L = 0
  · have hc := play_check he
    have hG := good_of_check hc
    have hw0 := hG.w0
    have hw6 := hG.w6
    rw [he] at h79
    simp only [he, decide_true, Bool.true_and] at hR
    generalize playOw S L = a at h79 hR
    obtain ⟨w, es, ss⟩ := S
    simp only at hR hw0 hw6
    by_cases hm : Int.ofNat (lenOf P) ≤ many
    · have hm' : ¬ many < Int.ofNat (lenOf P) := by omega
      simp only [hm, decide_true, Bool.true_and] at hR
      have hA := fun s => k104 (P := payOk w) (f := .func 105) (fa := [vSl ⟨w, es, ss⟩]) (fb := []) (by (try simp only [go_sem, ↓reduceIte, Nat.reduceAdd, Nat.reduceEqDiff, Nat.reduceLT, Nat.reduceLeDiff, Nat.reduceBEq, Int.reduceEq, Int.reduceLT, Int.reduceLE])) (by (try simp only [go_sem, ↓reduceIte, Nat.reduceAdd, Nat.reduceEqDiff, Nat.reduceLT, Nat.reduceLeDiff, Nat.reduceBEq, Int.reduceEq, Int.reduceLT, Int.reduceLE])) s P hP (fun e _ => by obtain ⟨a, b, n⟩ := e; (try simp only [go_sem, ↓reduceIte, Nat.reduceAdd, Nat.reduceEqDiff, Nat.reduceLT, Nat.reduceLeDiff, Nat.reduceBEq, Int.reduceEq, Int.reduceLT, Int.reduceLE]))
      cases hb : allB (payOk w) P with
      | false =>
        rw [hb] at hA hR
        simp only [Bool.false_and] at hR
        subst hR
        (try simp only [go_sem, ↓reduceIte, Nat.reduceAdd, Nat.reduceEqDiff, Nat.reduceLT, Nat.reduceLeDiff, Nat.reduceBEq, Int.reduceEq, Int.reduceLT, Int.reduceLE]); (repeat ((first | simp only [h79] | rw [lt_n hm'] | simp only [hA] | (rw [lt_yes]; rotate_left; (first | omega | (simp [lenOf, app]; omega) | (simp only [lenOf]; omega))) | (rw [lt_no]; rotate_left; (first | omega | (simp [lenOf, app]; omega) | (simp only [lenOf]; omega))) | (rw [idxA_at]; rotate_left; (first | omega | (simp [lenOf, app]; omega) | (simp only [lenOf]; omega))) | (rw [wr_up]; rotate_left; (first | omega | (simp [lenOf, app]; omega) | (simp only [lenOf]; omega))) | ((first | rw [drop_cI] | rw [drop_cE] | rw [drop_cS] | rw [drop_cP] | rw [drop_cR]); rotate_left; assumption)); try simp only [go_sem, ↓reduceIte, Nat.reduceAdd, Nat.reduceEqDiff, Nat.reduceLT, Nat.reduceLeDiff, Nat.reduceBEq, Int.reduceEq, Int.reduceLT, Int.reduceLE]))
      | true =>
        rw [hb] at hA hR
        simp only [Bool.true_and] at hR
        have hF := pay_women hw6 hb hw0
        obtain ⟨M, Q, hU, h0⟩ := l67 P hP hF N O p q P.length 0 a (na N 1) (.cells (c6 a) :: O) (by omega) (Under.init ..)
        rw [ofNat_0] at h0
        rw [List.drop_zero] at hU
        have g1 := hU.get p q
        have ho := hU.old p q
        have hz := eq6_z (fun j => setUp (Int.ofNat j) (a j) P)
        rw [hR] at hz
        generalize (fun j => setUp (Int.ofNat j) (a j) P) = b at g1 hz
        (try simp only [go_sem, ↓reduceIte, Nat.reduceAdd, Nat.reduceEqDiff, Nat.reduceLT, Nat.reduceLeDiff, Nat.reduceBEq, Int.reduceEq, Int.reduceLT, Int.reduceLE]); (repeat ((first | simp only [h79] | rw [lt_n hm'] | simp only [hA] | rw [h0] | rw [g1] | rw [hz] | rw [ho] | (rw [lt_yes]; rotate_left; (first | omega | (simp [lenOf, app]; omega) | (simp only [lenOf]; omega))) | (rw [lt_no]; rotate_left; (first | omega | (simp [lenOf, app]; omega) | (simp only [lenOf]; omega))) | (rw [idxA_at]; rotate_left; (first | omega | (simp [lenOf, app]; omega) | (simp only [lenOf]; omega))) | (rw [wr_up]; rotate_left; (first | omega | (simp [lenOf, app]; omega) | (simp only [lenOf]; omega))) | ((first | rw [drop_cI] | rw [drop_cE] | rw [drop_cS] | rw [drop_cP] | rw [drop_cR]); rotate_left; assumption)); try simp only [go_sem, ↓reduceIte, Nat.reduceAdd, Nat.reduceEqDiff, Nat.reduceLT, Nat.reduceLeDiff, Nat.reduceBEq, Int.reduceEq, Int.reduceLT, Int.reduceLE]))
    · have hm' : many < Int.ofNat (lenOf P) := by omega
      simp only [hm, decide_false, Bool.false_and] at hR
      subst hR
      (try simp only [go_sem, ↓reduceIte, Nat.reduceAdd, Nat.reduceEqDiff, Nat.reduceLT, Nat.reduceLeDiff, Nat.reduceBEq, Int.reduceEq, Int.reduceLT, Int.reduceLE]); (repeat ((first | simp only [h79] | rw [lt_y hm'] | (rw [lt_yes]; rotate_left; (first | omega | (simp [lenOf, app]; omega) | (simp only [lenOf]; omega))) | (rw [lt_no]; rotate_left; (first | omega | (simp [lenOf, app]; omega) | (simp only [lenOf]; omega))) | (rw [idxA_at]; rotate_left; (first | omega | (simp [lenOf, app]; omega) | (simp only [lenOf]; omega))) | (rw [wr_up]; rotate_left; (first | omega | (simp [lenOf, app]; omega) | (simp only [lenOf]; omega))) | ((first | rw [drop_cI] | rw [drop_cE] | rw [drop_cS] | rw [drop_cP] | rw [drop_cR]); rotate_left; assumption)); try simp only [go_sem, ↓reduceIte, Nat.reduceAdd, Nat.reduceEqDiff, Nat.reduceLT, Nat.reduceLeDiff, Nat.reduceBEq, Int.reduceEq, Int.reduceLT, Int.reduceLE]))
  · simp only [he, decide_false, Bool.false_and] at hR
    subst hR
    generalize playErr S L = e at h79 he
    generalize playOw S L = a at h79
    obtain ⟨w, es, ss⟩ := S
    (try simp only [go_sem, ↓reduceIte, Nat.reduceAdd, Nat.reduceEqDiff, Nat.reduceLT, Nat.reduceLeDiff, Nat.reduceBEq, Int.reduceEq, Int.reduceLT, Int.reduceLE]); (repeat ((first | simp only [h79] | rw [eq_n he] | (rw [lt_yes]; rotate_left; (first | omega | (simp [lenOf, app]; omega) | (simp only [lenOf]; omega))) | (rw [lt_no]; rotate_left; (first | omega | (simp [lenOf, app]; omega) | (simp only [lenOf]; omega))) | (rw [idxA_at]; rotate_left; (first | omega | (simp [lenOf, app]; omega) | (simp only [lenOf]; omega))) | (rw [wr_up]; rotate_left; (first | omega | (simp [lenOf, app]; omega) | (simp only [lenOf]; omega))) | ((first | rw [drop_cI] | rw [drop_cE] | rw [drop_cS] | rw [drop_cP] | rw [drop_cR]); rotate_left; assumption)); try simp only [go_sem, ↓reduceIte, Nat.reduceAdd, Nat.reduceEqDiff, Nat.reduceLT, Nat.reduceLeDiff, Nat.reduceBEq, Int.reduceEq, Int.reduceLT, Int.reduceLE]))
end Go.Proofs.Ytlhfeiacigmliaa

/- The plain law of payments that settle: by the program as by the document. -/
namespace Go.Proofs.Ytlhfeiacigmliaa
open Go
set_option maxRecDepth 100000

theorem payOk_iff {w : Int} (h0 : 0 ≤ w) (h6 : w ≤ 6) {x : Pay} : payOk w x = true ↔ PayW w.toNat x := by
  have hwr : wr .i64 (w - 1) = w - 1 := wr_in (by omega) (by omega)
  simp only [payOk, pair, woman, hwr, Bool.and_eq_true, within_iff, Bool.not_eq_true', decide_eq_false_iff_not]
  constructor
  · rintro ⟨⟨⟨a1, a2⟩, ⟨b1, b2⟩, b3⟩, c1, c2⟩
    exact ⟨x.fr.toNat, x.to.toNat, by omega, by omega, by omega, by simp; omega, by simp; omega, c1, c2⟩
  · rintro ⟨f, t, hf, ht, hne, e1, e2, c1, c2⟩
    rw [e1, e2]
    simp only [Int.ofNat_eq_natCast, Int.ofNat_inj]
    exact ⟨⟨⟨by omega, by omega⟩, ⟨by omega, by omega⟩, hne⟩, c1, c2⟩
theorem setUp_plain {w : Nat} : ∀ {P : List Pay} {n : Int} {j : Nat} (B : Int), (∀ x ∈ P, PayW w x) → -B ≤ n → n ≤ B → B + 240 * (P.length : Int) ≤ 1000000000 → setUp (Int.ofNat j) n P = n + paysD P j
  | [], n, j, B, _, _, _, _ => by simp [setUp, paysD]
  | x :: P, n, j, B, h, h1, h2, h3 => by
    obtain ⟨f, t, hf, ht, hne, e1, e2, c1, c2⟩ := h x (by simp)
    simp only [List.length_cons, Int.natCast_add, Int.natCast_one] at h3
    rw [setUp, paysD]
    unfold payD
    rw [e1, e2]
    simp only [Int.ofNat.injEq, fold_add, fold_sub]
    have go : ∀ m : Int, m = n + ((if f = j then x.oz else 0) - (if t = j then x.oz else 0)) → setUp (Int.ofNat j) m P = n + ((if f = j then x.oz else 0) - (if t = j then x.oz else 0) + paysD P j) := by
      intro m hm
      have hb : -(B + 240) ≤ m ∧ m ≤ B + 240 := by
        rw [hm]
        split <;> split <;> omega
      rw [setUp_plain (B + 240) (fun y hy => h y (by simp [hy])) hb.1 hb.2 (by omega), hm]; omega
    apply go
    by_cases hfj : f = j
    · have htj : ¬ t = j := by omega
      simp only [hfj, htj, if_true, if_false]
      rw [wr_in (by omega) (by omega)]; omega
    · by_cases htj : t = j
      · simp only [hfj, htj, if_true, if_false]
        rw [wr_in (by omega) (by omega)]; omega
      · simp only [hfj, htj, if_false]; omega
theorem paysD_far {w : Nat} : ∀ {P : List Pay}, (∀ x ∈ P, PayW w x) → ∀ j, w ≤ j → paysD P j = 0
  | [], _, _, _ => rfl
  | x :: P, h, j, hj => by
    obtain ⟨f, t, hf, ht, hne, e1, e2, _⟩ := h x (by simp)
    rw [paysD, paysD_far (fun y hy => h y (by simp [hy])) j hj]
    unfold payD
    rw [e1, e2]
    simp only [Int.ofNat_eq_natCast, Int.ofNat_inj]
    rw [if_neg (by omega), if_neg (by omega)]; rfl
theorem eq6_zero (b : Nat → Int) : eq6 b (fun _ => 0) = true ↔ ∀ j, j < 6 → b j = 0 := by
  constructor
  · intro h j hj; exact eq6_fun h j hj
  · intro h
    simp [eq6, h 0 (by omega), h 1 (by omega), h 2 (by omega), h 3 (by omega), h 4 (by omega), h 5 (by omega)]
section
variable {S : Slate} {L : List Int} (hc : checkSlate S = 0) (ha : areOz S.es L = true) {P : List Pay} (hP : P.length ≤ 1000) (hW : ∀ x ∈ P, PayW S.women.toNat x)
include hc ha hP hW
theorem settles_iff : settlesR S L P = true ↔ ∀ j, owV S.es L j + paysD P j = 0 := by
  have h240 := ow240 hc ha
  unfold settlesR
  rw [List.all_eq_true]
  have hz : ∀ j, zeroAt S.es L P j = decide (owV S.es L j + paysD P j = 0) := by
    intro j
    unfold zeroAt
    change decide (setUp (Int.ofNat j) (owV S.es L j) P = 0) = _
    have := h240 j
    rw [setUp_plain 240 hW this.1 this.2 (by omega)]
  constructor
  · intro h j
    rcases Nat.lt_or_ge j S.women.toNat with hj | hj
    · have := h j (by rw [List.mem_range'_1]; omega)
      rw [hz, decide_eq_true_eq] at this; exact this
    · rw [ow_far hc ha j hj, paysD_far hW j hj]; rfl
  · intro h j _
    rw [hz, decide_eq_true_eq]; exact h j
theorem prove_eq (many : Int) : proveS S L P many = (decide (Int.ofNat (lenOf P) ≤ many) && settlesR S L P) := by
  obtain ⟨hE, ho, _⟩ := play_facts hc ha
  have hG := good_of_check hc
  have h240 := ow240 hc ha
  have hA : allB (payOk S.women) P = true := by
    unfold allB
    rw [List.all_eq_true]
    exact fun x hx => (payOk_iff hG.w0 hG.w6).2 (hW x hx)
  unfold proveS
  rw [hE, ho, hA]
  simp only [decide_true, Bool.true_and]
  congr 1
  rw [Bool.eq_iff_iff, eq6_zero, settles_iff hc ha hP hW]
  have hs : ∀ j, setUp (Int.ofNat j) (owV S.es L j) P = owV S.es L j + paysD P j := fun j => by
    have := h240 j
    exact setUp_plain 240 hW this.1 this.2 (by omega)
  simp only [hs]
  constructor
  · intro h j
    rcases Nat.lt_or_ge j 6 with hj | hj
    · exact h j hj
    · have := hG.w6
      rw [ow_far hc ha j (by omega), paysD_far hW j (by omega)]; rfl
  · intro h j _; exact h j
end
theorem settle_len {S : Slate} {L : List Int} (hc : checkSlate S = 0) (ha : areOz S.es L = true) : (settleP S L).length ≤ 6 := by
  obtain ⟨_, _, _, p4⟩ := settle_facts hc ha
  have := (pc_facts _ (openN_lt (owV S.es L))).1
  omega
theorem prove_no {S : Slate} {L : List Int} {P : List Pay} {many : Int} (h : playErr S L ≠ 0 ∨ allB (payOk S.women) P = false) : proveS S L P many = false := by
  unfold proveS
  rcases h with h | h
  · simp [h]
  · simp [h]
end Go.Proofs.Ytlhfeiacigmliaa

/- From the evaluator to the rows: arguments beside a slate. -/
namespace Go.Proofs.Ytlhfeiacigmliaa
open Go Go.ChangeShapes Go.RowKit
set_option maxRecDepth 100000
def eqbK (neg : Bool) (s : St) : AVal → AVal → Option (AVal × St)
  | .bool a, .bool b => some (.bool ((a == b) != neg), s)
  | _, _ => none
@[go_sem] theorem op_eqb (H : Han) (fr : List AVal) (s : St) (x y : AOpd) (neg : Bool) : evalOp H (.eqb neg x y) fr s = eqbK neg s (x.eval fr) (y.eval fr) := by
  unfold evalOp eqbK
  rfl
@[go_sem] theorem eqb_true_true_true (s : St) : eqbK true s (.bool true) (.bool true) = some (.bool false, s) := (rfl)
@[go_sem] theorem eqb_true_false_false (s : St) : eqbK true s (.bool false) (.bool false) = some (.bool false, s) := (rfl)
section
variable {H : Type} {enc : TypeId × Value → H} {w : World} {base : Nat}
theorem rel_int {P : Program} {t : TypeId} {kd : IntKind} (hu : P.underlying t = some (.int kd)) {v : Value} {d : DataW H} {p : List MemPlace} (hok : Value.okWide P w .any base t v) (h : DataW.Trod enc P w 0 (fun _ => true) true t v d p) : ∃ n : Int, v = .int kd n ∧ (Lit.int kd n).wf = true := by
  obtain ⟨fuel, h⟩ := h
  unfold Value.okWide at hok
  rw [hu] at hok
  cases fuel with
  | zero => simp [DataW.trod] at h
  | succ fuel =>
    unfold DataW.trod at h
    rw [hu] at h
    cases v with
    | int k n =>
      simp only [Value.cells] at h
      split at h
      · rename_i hc
        obtain ⟨rfl, hw⟩ := hc
        exact ⟨n, rfl, hw⟩
      · cases h
    | agg cs =>
      exfalso
      unfold Cell.okWide at hok
      rw [hu] at hok
      unfold Cell.ok at hok
      rw [hu] at hok
      exact hok
    | _ => simp only [Value.cells] at h; cases h
theorem rel_i64 {v : Value} {d : DataW H} {p : List MemPlace} (hok : Value.okWide Try.prog w .any base 3 v) (h : DataW.Trod enc Try.prog w 0 (fun _ => true) true 3 v d p) : ∃ n : Int, VRel (rho0 w) (i64 n) v := by
  obtain ⟨n, rfl, hw⟩ := rel_int Try.underlying3 hok h
  exact ⟨n, rfl⟩
theorem c140 : Try.prog.cellsOf 140 = 3 := by kernel_rfl
theorem F140 : Flat enc Try.prog w 140 3 := flat_three Try.underlying140 rfl ⟨rfl, rfl, c3⟩ ⟨rfl, rfl, c3⟩ ⟨rfl, rfl, c3⟩ c140 F3 F3 F3
theorem one_cell {P : Program} {t e : TypeId} (hu : P.underlying t = some (.slice e)) {v : Value} (hok : Value.okWide P w .any base t v) : v.cells.toList = [v] ∧ ∀ a len cap, v = .slice (some a) len cap → a.spot = none := by
  unfold Value.okWide at hok
  rw [hu] at hok
  refine ⟨?_, spot_of_ok hu hok⟩
  cases v with
  | agg cs =>
    exfalso
    unfold Cell.okWide at hok
    rw [hu] at hok
    unfold Cell.ok at hok
    rw [hu] at hok
    exact hok
  | _ => rfl
theorem rel_list {v : Value} {d : DataW H} {p : List MemPlace} (hok : Value.okWide Try.prog w .any base 37 v) (h : DataW.Trod enc Try.prog w 0 (fun _ => true) true 37 v d p) : ∃ l : List Int, VRel (rho0 w) (sl cI l) v := by
  obtain ⟨fuel, h⟩ := h
  obtain ⟨h1, h2⟩ := one_cell Try.underlying37 hok
  rw [h1] at h
  exact rel_ints h h2
theorem rel_pays {v : Value} {d : DataW H} {p : List MemPlace} (hok : Value.okWide Try.prog w .any base 82 v) (h : DataW.Trod enc Try.prog w 0 (fun _ => true) true 82 v d p) : ∃ l : List Pay, VRel (rho0 w) (sl cP l) v := by
  obtain ⟨fuel, h⟩ := h
  obtain ⟨h1, h2⟩ := one_cell Try.underlying82 hok
  rw [h1] at h
  obtain ⟨len, vals, hv⟩ := slice_vals Try.underlying82 c140 F140 h h2
  refine ⟨(List.range len).map fun i => ⟨vals (i * 3 + 0), vals (i * 3 + 1), vals (i * 3 + 2)⟩, ?_⟩
  have hc := cells_range (f := cP) (k := 3) (mk := fun i => ⟨vals (i * 3 + 0), vals (i * 3 + 1), vals (i * 3 + 2)⟩) (vals := vals) (fun i => rfl) len
  rw [← hc] at hv
  simpa [sl, lenOf] using hv
end
end Go.Proofs.Ytlhfeiacigmliaa
