/- The plain law of what is owed, and of the groups that the program returns. -/
import Derived.Test.YtlhfeiacigmliaaPartI
import Derived.Test.YtlhfeiacigmliaaRows
import Derived.ProofKit
set_option linter.all false
namespace Go.Proofs.Ytlhfeiacigmliaa
open Go
set_option maxRecDepth 100000

def owP : List Ent → List Int → Nat → Int
  | e :: es, x :: L, j => owP es L j + (if e.fr = Int.ofNat j then x else 0) - (if e.to = Int.ofNat j then x else 0)
  | _, _, _ => 0
def OkW (w : Nat) (es : List Ent) : Prop := ∀ e ∈ es, ∃ f t : Nat, f < w ∧ t < w ∧ f ≠ t ∧ e.fr = Int.ofNat f ∧ e.to = Int.ofNat t
theorem okw_of_check {S : Slate} (h : checkSlate S = 0) : OkW S.women.toNat S.es := by
  unfold checkSlate at h
  split at h
  · cases h
  split at h
  · cases h
  rename_i h1 h2
  simp only [Bool.or_eq_true, decide_eq_true_eq, not_or, Int.not_lt, Bool.not_eq_true', Bool.not_eq_false] at h1 h2
  obtain ⟨⟨h1, h3⟩, h4⟩ := h1
  obtain ⟨⟨h2, h5⟩, h6⟩ := h2
  have hw : wr .i64 (S.women - 1) = S.women - 1 := wr_in (by omega) (by omega)
  simp only [allB, List.all_eq_true] at h5
  intro e he
  have := h5 e he
  simp only [entOk, pair, woman, hw, Bool.and_eq_true, within_iff, Bool.not_eq_true', decide_eq_false_iff_not] at this
  obtain ⟨⟨⟨a1, a2⟩, ⟨b1, b2⟩, b3⟩, _⟩ := this
  exact ⟨e.fr.toNat, e.to.toNat, by omega, by omega, by omega, by simp; omega, by simp; omega⟩
theorem ow_le {w : Nat} : ∀ {es : List Ent} {L : List Int}, OkW w es → OkE es → areOz es L = true → ∀ j, -(40 * (es.length : Int)) ≤ owP es L j ∧ owP es L j ≤ 40 * (es.length : Int)
  | [], _, _, _, _, j => by simp [owP]
  | e :: es, [], _, _, h, _ => by simp [areOz] at h
  | e :: es, x :: L, hw, ho, h, j => by
    simp only [areOz, Bool.and_eq_true] at h
    obtain ⟨hx, h⟩ := h
    rw [within_iff] at hx
    have hoe := ho e (by simp)
    obtain ⟨f, t, _, _, hne, hf, ht⟩ := hw e (by simp)
    have ih := ow_le (es := es) (L := L) (fun e he => hw e (by simp [he])) (fun e he => ho e (by simp [he])) h j
    rw [owP, List.length_cons, hf, ht]
    simp only [Int.natCast_add, Int.natCast_one]
    by_cases h1 : f = j
    · have h2 : ¬ t = j := by omega
      simp only [h1, if_true, Int.ofNat_eq_natCast, Int.ofNat_inj, h2, if_false]; omega
    · by_cases h2 : t = j
      · simp only [h2, if_true, Int.ofNat_eq_natCast, Int.ofNat_inj, h1, if_false]; omega
      · simp only [Int.ofNat_eq_natCast, Int.ofNat_inj, h1, h2, if_false]; omega
theorem ow_plain {j : Nat} : ∀ {es : List Ent} {L : List Int} (n B : Int), OkE es → areOz es L = true → -B ≤ n → n ≤ B → B + 80 * es.length ≤ 1000000 → owedUp n (Int.ofNat j) es L = n + owP es L j
  | [], [], n, B, _, _, _, _, _ => by simp [owedUp, owP]
  | [], _ :: _, _, _, _, h, _, _, _ => by simp [areOz] at h
  | _ :: _, [], _, _, _, h, _, _, _ => by simp [areOz] at h
  | e :: es, x :: L, n, B, ho, h, h1, h2, h3 => by
    simp only [areOz, Bool.and_eq_true] at h
    obtain ⟨hx, h⟩ := h
    rw [within_iff] at hx
    have hoe := ho e (by simp)
    simp only [List.length_cons, Int.natCast_add, Int.natCast_one] at h3
    rw [owedUp, owP]
    have e1 : (if e.fr = Int.ofNat j then wr .i64 (n + x) else n) = n + (if e.fr = Int.ofNat j then x else 0) := by
      split
      · exact wr_in (by omega) (by omega)
      · omega
    have e2 : ∀ m : Int, -2000000 ≤ m → m ≤ 2000000 → (if e.to = Int.ofNat j then wr .i64 (m - x) else m) = m - (if e.to = Int.ofNat j then x else 0) := by
      intro m g1 g2
      split
      · exact wr_in (by omega) (by omega)
      · omega
    have b1 : 0 ≤ (if e.fr = Int.ofNat j then x else 0) ∧ (if e.fr = Int.ofNat j then x else 0) ≤ 40 := by split <;> omega
    have b2 : 0 ≤ (if e.to = Int.ofNat j then x else 0) ∧ (if e.to = Int.ofNat j then x else 0) ≤ 40 := by split <;> omega
    simp only [e1]
    rw [e2 _ (by omega) (by omega), ow_plain _ (B + 80) (fun e he => ho e (by simp [he])) h (by omega) (by omega) (by omega)]
    omega
theorem owV_plain {S : Slate} {L : List Int} (hG : Good S) (h : areOz S.es L = true) : owV S.es L = owP S.es L := by
  funext j
  have h6 := hG.e6
  unfold owV
  rw [ow_plain 0 0 hG.oe h (by omega) (by omega) (by omega)]
  omega
theorem ow_out {w : Nat} : ∀ {es : List Ent} {L : List Int}, OkW w es → ∀ j, w ≤ j → owP es L j = 0
  | [], _, _, _, _ => rfl
  | _ :: _, [], _, _, _ => rfl
  | e :: es, x :: L, hw, j, hj => by
    obtain ⟨f, t, h1, h2, hne, hf, ht⟩ := hw e (by simp)
    have ih := ow_out (es := es) (L := L) (fun e he => hw e (by simp [he])) j hj
    rw [owP, hf, ht, ih]
    simp only [Int.ofNat_eq_natCast, Int.ofNat_inj]
    rw [if_neg (by omega), if_neg (by omega)]; rfl
def dl (f : Nat) (x : Int) (j : Nat) : Int := if f = j then x else 0
theorem ps_add (a b : Nat → Int) (w : Nat) : ps (fun j => a j + b j) w = ps a w + ps b w := by
  have ht : ∀ i, term (fun j => a j + b j) w i = term a w i + term b w i := by
    intro i; unfold term; split <;> simp
  unfold ps
  simp only [ht]; omega
theorem ps_neg (a : Nat → Int) (w : Nat) : ps (fun j => -a j) w = -ps a w := by
  have ht : ∀ i, term (fun j => -a j) w i = -term a w i := by
    intro i; unfold term; split <;> simp
  unfold ps
  simp only [ht]; omega
theorem ps_dl {f : Nat} (hf : f < 6) (x : Int) (w : Nat) : ps (dl f x) w = if w.testBit f then x else 0 := by
  match f, hf with
  | 0, _ => simp [ps, term, dl]
  | 1, _ => simp [ps, term, dl]
  | 2, _ => simp [ps, term, dl]
  | 3, _ => simp [ps, term, dl]
  | 4, _ => simp [ps, term, dl]
  | 5, _ => simp [ps, term, dl]
/-- A payment, or an entry. -/
def mv (a : Nat → Int) (f t : Nat) (x : Int) : Nat → Int := fun j => a j + (dl f x j + -dl t x j)
theorem ps_mv (a : Nat → Int) {f t : Nat} (hf : f < 6) (ht : t < 6) (x : Int) (w : Nat) : ps (mv a f t x) w = ps a w + ((if w.testBit f then x else 0) - (if w.testBit t then x else 0)) := by
  unfold mv
  rw [ps_add a, ps_add (dl f x), ps_neg, ps_dl hf, ps_dl ht]; omega
theorem ow_mv {e : Ent} {f t : Nat} (hf : e.fr = Int.ofNat f) (ht : e.to = Int.ofNat t) (es : List Ent) (x : Int) (L : List Int) : owP (e :: es) (x :: L) = mv (owP es L) f t x := by
  funext j
  rw [owP, hf, ht]
  unfold mv dl
  simp only [Int.ofNat_eq_natCast, Int.ofNat_inj]; omega
theorem test63 {i : Nat} (h : i < 6) : (63 : Nat).testBit i = true := by
  match i, h with
  | 0, _ | 1, _ | 2, _ | 3, _ | 4, _ | 5, _ => rfl
theorem ow_sum {w : Nat} (h6 : w ≤ 6) : ∀ {es : List Ent} {L : List Int}, OkW w es → ps (owP es L) 63 = 0
  | [], _, _ => by simp [ps, term, owP]
  | _ :: _, [], _ => by simp [ps, term, owP]
  | e :: es, x :: L, hw => by
    obtain ⟨f, t, h1, h2, hne, hf, ht⟩ := hw e (by simp)
    have ih := ow_sum h6 (es := es) (L := L) (fun e he => hw e (by simp [he]))
    rw [ow_mv hf ht, ps_mv _ (by omega) (by omega), ih, test63 (by omega), test63 (by omega)]; simp

theorem openUp_t (a : Nat → Int) (j : Nat) : ∀ (k i n : Nat), (openUp a n i k).testBit j = (n.testBit j || decide (i ≤ j ∧ j < i + k ∧ a j ≠ 0))
  | 0, i, n => by
    have : ¬ (i ≤ j ∧ j < i + 0 ∧ a j ≠ 0) := by omega
    simp only [openUp, this, decide_false, Bool.or_false]
  | k + 1, i, n => by
    rw [openUp, openUp_t a j k (i + 1)]
    by_cases hz : a i = 0
    · rw [if_pos hz]
      congr 2
      apply propext
      constructor
      · rintro ⟨h1, h2, h3⟩; exact ⟨by omega, by omega, h3⟩
      · rintro ⟨h1, h2, h3⟩
        have : i ≠ j := fun h => h3 (by rw [← h]; exact hz)
        exact ⟨by omega, by omega, h3⟩
    · rw [if_neg hz, bor_t, pw_t, Bool.or_assoc]
      congr 1
      by_cases hij : i = j
      · subst hij; simp [hz]
      · simp only [hij, decide_false, Bool.false_or]
        congr 1
        apply propext
        constructor
        · rintro ⟨h1, h2, h3⟩; exact ⟨by omega, by omega, h3⟩
        · rintro ⟨h1, h2, h3⟩; exact ⟨by omega, by omega, h3⟩
theorem open_t (a : Nat → Int) (j : Nat) : (openN a).testBit j = decide (j < 6 ∧ a j ≠ 0) := by
  unfold openN
  rw [openUp_t]
  simp
theorem open_ps (a : Nat → Int) : ps a (openN a) = ps a 63 := by
  have ht : ∀ i, i < 6 → term a (openN a) i = term a 63 i := by
    intro i hi
    unfold term
    rw [open_t, test63 hi]
    by_cases h : a i = 0
    · simp [h]
    · simp [h, hi]
  unfold ps
  rw [ht 0 (by omega), ht 1 (by omega), ht 2 (by omega), ht 3 (by omega), ht 4 (by omega), ht 5 (by omega)]
theorem open_same {S : Slate} {L : List Int} (hc : checkSlate S = 0) (h : areOz S.es L = true) : openR S L = openN (owV S.es L) := by
  have hG := good_of_check hc
  have hw := okw_of_check hc
  apply Nat.eq_of_testBit_eq
  intro j
  rw [open_t]
  unfold openR
  rw [openUp_t, owV_plain hG h]
  simp only [Nat.zero_testBit, Bool.false_or]
  congr 1
  apply propext
  have h6 := hG.w6
  constructor
  · rintro ⟨_, h2, h3⟩; exact ⟨by omega, h3⟩
  · rintro ⟨h1, h2⟩
    refine ⟨by omega, ?_, h2⟩
    rcases Nat.lt_or_ge j S.women.toNat with hj | hj
    · omega
    · exact absurd (ow_out hw j hj) h2
theorem open_zero {S : Slate} {L : List Int} (hc : checkSlate S = 0) (h : areOz S.es L = true) : ps (owV S.es L) (openN (owV S.es L)) = 0 := by
  have hG := good_of_check hc
  have h6 := hG.w6
  rw [open_ps, owV_plain hG h]
  exact ow_sum (w := S.women.toNat) (by omega) (okw_of_check hc)

end Go.Proofs.Ytlhfeiacigmliaa

/- The wash-house's soap, plain law: the first wrong saying, and the smallest set, are as the document says. -/
namespace Go.Proofs.Ytlhfeiacigmliaa
open Go
set_option maxRecDepth 10000

end Go.Proofs.Ytlhfeiacigmliaa

/- From the evaluator to the rows: what a row gives, and what it wants. -/
namespace Go.Proofs.Ytlhfeiacigmliaa
open Go Go.ChangeShapes Go.RowKit
set_option maxRecDepth 100000

def rho0 (W : World) : Rho := ⟨fun _ => none, fun R off => W.cell? ⟨R, off, none⟩, fun _ => none⟩
theorem sim0 (P : Program) (W : World) : Sim P (rho0 W) St.empty W where
  inj _ _ _ h := by cases h
  mlt _ _ h := by cases h
  obj _ _ _ h := by cases h
  imm _ _ _ h := h
  free _ _ h := by cases h
  plt _ _ h := by cases h
  ver _ _ h := by cases h
  pnm _ _ _ h := by cases h
  room _ _ _ h := by cases h
  apart _ _ _ _ _ _ h := by cases h

theorem mapM_each {α β : Type} {f : α → Option β} : ∀ {l : List α} {ys : List β}, l.mapM f = some ys → ∀ a ∈ l, ∃ y, f a = some y
  | [], _, _, a, ha => by simp at ha
  | x :: l, ys, h, a, ha => by
    rw [List.mapM_cons] at h
    cases hx : f x with
    | none => rw [hx] at h; simp at h
    | some y =>
      rw [hx] at h
      cases hl : l.mapM f with
      | none => rw [hl] at h; simp at h
      | some zs =>
        simp only [List.mem_cons] at ha
        rcases ha with rfl | ha
        · exact ⟨y, hx⟩
        · exact mapM_each hl a ha
section
variable {H : Type} {enc : TypeId × Value → H} {P : Program} {w : World}
abbrev trd (enc : TypeId × Value → H) (P : Program) (w : World) (fuel : Nat) (t : TypeId) (cs : List Value) : Option (DataW H × List MemPlace) := DataW.trod enc P w 0 (fun _ => true) true fuel t cs
theorem trd_struct {t : TypeId} {fs : Array Field} (hu : P.underlying t = some (.struct fs)) {fuel : Nat} {cs : List Value} {x : DataW H × List MemPlace} (h : trd enc P w fuel t cs = some x) :
    cs.length = P.cellsOf t ∧ ∃ fuel', ∀ f ∈ fs.toList, ∃ y, trd enc P w fuel' f.type ((cs.drop f.offset).take (P.cellsOf f.type)) = some y := by
  cases fuel with
  | zero => simp [trd, DataW.trod] at h
  | succ fuel =>
    simp only [trd, DataW.trod, hu] at h
    split at h
    · rename_i hl
      refine ⟨hl, fuel, fun f hf => ?_⟩
      rw [Option.map_eq_some_iff] at h
      obtain ⟨ys, h1, _⟩ := h
      exact mapM_each h1 f hf
    · cases h
theorem trd_slice {t e : TypeId} (hu : P.underlying t = some (.slice e)) {fuel : Nat} {cs : List Value} {x : DataW H × List MemPlace} (h : trd enc P w fuel t cs = some x) :
    cs = [.slice none 0 0] ∨ ∃ a len cap, cs = [.slice (some a) len cap] ∧ len ≤ cap ∧ ∃ fuel', ∀ i, i < len → ∃ row y, w.cells? 0 (a.add (i * P.cellsOf e)) (P.cellsOf e) = some row ∧ trd enc P w fuel' e row = some y := by
  cases fuel with
  | zero => simp [trd, DataW.trod] at h
  | succ fuel =>
    unfold trd DataW.trod at h
    rw [hu] at h
    rcases cs with _ | ⟨v, _ | ⟨v2, r⟩⟩
    · cases h
    · cases v with
      | slice o len cap =>
        cases o with
        | none =>
          left
          cases len with
          | zero =>
            cases cap with
            | zero => rfl
            | succ n => cases h
          | succ n => cases h
        | some a =>
          right
          simp only at h
          split at h
          · rename_i hc
            refine ⟨a, len, cap, rfl, hc.2.1, fuel, fun i hi => ?_⟩
            cases he : (List.range len).mapM fun i => (w.cells? 0 (a.add (i * P.cellsOf e)) (P.cellsOf e)).bind (DataW.trod enc P w 0 (fun _ => true) true fuel e) with
            | none => rw [he] at h; cases h
            | some ys =>
              obtain ⟨y, hy⟩ := mapM_each he i (by simpa using hi)
              rw [Option.bind_eq_some_iff] at hy
              obtain ⟨row, h1, h2⟩ := hy
              exact ⟨row, y, h1, h2⟩
          · cases h
      | _ => cases h
    · cases v with
      | slice o len cap =>
        cases o with
        | none =>
          cases len with
          | zero => cases cap <;> cases h
          | succ n => cases h
        | some a => cases h
      | _ => cases h
def Flat (enc : TypeId × Value → H) (P : Program) (w : World) (t : TypeId) (k : Nat) : Prop := ∀ fuel cs x, trd enc P w fuel t cs = some x → cs.length = k ∧ ∀ v ∈ cs, ∃ n : Int, v = .int .i64 n
theorem flat_int {t : TypeId} (hu : P.underlying t = some (.int .i64)) : Flat enc P w t 1 := by
  intro fuel cs x h
  cases fuel with
  | zero => simp [trd, DataW.trod] at h
  | succ fuel =>
    unfold trd DataW.trod at h
    rw [hu] at h
    rcases cs with _ | ⟨v, _ | ⟨v2, r⟩⟩
    · cases h
    · cases v with
      | int k n =>
        simp only at h
        split at h
        · rename_i hc
          obtain ⟨rfl, _⟩ := hc
          exact ⟨rfl, fun v hv => ⟨n, by simpa using hv⟩⟩
        · cases h
      | _ => cases h
    · cases v <;> cases h
/-- A structure of two or three fields that lie one behind the other. -/
theorem flat_two {t t0 t1 : TypeId} {k0 k1 : Nat} {fs : Array Field} (hu : P.underlying t = some (.struct fs)) {f0 f1 : Field} (hf : fs.toList = [f0, f1]) (h0 : f0.type = t0 ∧ f0.offset = 0 ∧ P.cellsOf t0 = k0) (h1 : f1.type = t1 ∧ f1.offset = k0 ∧ P.cellsOf t1 = k1)
    (hc : P.cellsOf t = k0 + k1) (F0 : Flat enc P w t0 k0) (F1 : Flat enc P w t1 k1) : Flat enc P w t (k0 + k1) := by
  intro fuel cs x h
  obtain ⟨hl, fuel', he⟩ := trd_struct hu h
  rw [hc] at hl
  rw [hf] at he
  obtain ⟨rfl, o0, c0⟩ := h0
  obtain ⟨rfl, o1, c1⟩ := h1
  obtain ⟨y0, g0⟩ := he f0 (by simp)
  obtain ⟨y1, g1⟩ := he f1 (by simp)
  rw [o0, c0, List.drop_zero] at g0
  rw [o1, c1, List.take_of_length_le (by simp; omega)] at g1
  obtain ⟨_, a0⟩ := F0 _ _ _ g0
  obtain ⟨_, a1⟩ := F1 _ _ _ g1
  refine ⟨hl, fun v hv => ?_⟩
  rw [← List.take_append_drop k0 cs, List.mem_append] at hv
  rcases hv with hv | hv
  · exact a0 v hv
  · exact a1 v hv
theorem flat_three {t t0 t1 t2 : TypeId} {k0 k1 k2 : Nat} {fs : Array Field} (hu : P.underlying t = some (.struct fs)) {f0 f1 f2 : Field} (hf : fs.toList = [f0, f1, f2]) (h0 : f0.type = t0 ∧ f0.offset = 0 ∧ P.cellsOf t0 = k0) (h1 : f1.type = t1 ∧ f1.offset = k0 ∧ P.cellsOf t1 = k1)
    (h2 : f2.type = t2 ∧ f2.offset = k0 + k1 ∧ P.cellsOf t2 = k2) (hc : P.cellsOf t = k0 + k1 + k2) (F0 : Flat enc P w t0 k0) (F1 : Flat enc P w t1 k1) (F2 : Flat enc P w t2 k2) : Flat enc P w t (k0 + k1 + k2) := by
  intro fuel cs x h
  obtain ⟨hl, fuel', he⟩ := trd_struct hu h
  rw [hc] at hl
  rw [hf] at he
  obtain ⟨rfl, o0, c0⟩ := h0
  obtain ⟨rfl, o1, c1⟩ := h1
  obtain ⟨rfl, o2, c2⟩ := h2
  obtain ⟨y0, g0⟩ := he f0 (by simp)
  obtain ⟨y1, g1⟩ := he f1 (by simp)
  obtain ⟨y2, g2⟩ := he f2 (by simp)
  rw [o0, c0, List.drop_zero] at g0
  rw [o1, c1] at g1
  rw [o2, c2, List.take_of_length_le (by simp; omega)] at g2
  obtain ⟨_, a0⟩ := F0 _ _ _ g0
  obtain ⟨_, a1⟩ := F1 _ _ _ g1
  obtain ⟨_, a2⟩ := F2 _ _ _ g2
  refine ⟨hl, fun v hv => ?_⟩
  rw [← List.take_append_drop k0 cs, List.mem_append] at hv
  rcases hv with hv | hv
  · exact a0 v hv
  · rw [← List.take_append_drop k1 (cs.drop k0), List.mem_append, List.drop_drop] at hv
    rcases hv with hv | hv
    · exact a1 v hv
    · exact a2 v hv
/-- The cells of a slice of such things. -/
theorem slice_vals {t e : TypeId} {k : Nat} (hu : P.underlying t = some (.slice e)) (hk : P.cellsOf e = k) (F : Flat enc P w e k) {fuel : Nat} {v : Value} {x : DataW H × List MemPlace} (h : trd enc P w fuel t [v] = some x)
    (hs : ∀ a len cap, v = .slice (some a) len cap → a.spot = none) : ∃ (len : Nat) (vals : Nat → Int), VRel (rho0 w) (.vsl ((List.range (len * k)).map fun j => i64 (vals j)) len .no) v := by
  rcases trd_slice hu h with h | ⟨a, len, cap, h, hlc, fuel', he⟩
  · simp only [List.cons.injEq, and_true] at h
    subst h
    refine ⟨0, fun _ => 0, ?_⟩
    rw [Nat.zero_mul]
    exact Or.inl ⟨rfl, rfl, fun p hp => (by cases hp), rfl⟩
  · simp only [List.cons.injEq, and_true] at h
    have hsp := hs a len cap h
    subst h
    obtain ⟨R, off, sp⟩ := a
    simp only at hsp
    subst hsp
    have hcell : ∀ j, ∃ n : Int, j < len * k → w.cell? ⟨R, off + j, none⟩ = some (.int .i64 n) := by
      intro j
      by_cases hj : j < len * k
      · have hk0 : 0 < k := by
          rcases Nat.eq_zero_or_pos k with h | h
          · subst h; simp at hj
          · exact h
        obtain ⟨row, y, g1, g2⟩ := he (j / k) (Nat.div_lt_of_lt_mul (by rw [Nat.mul_comm]; exact hj))
        rw [hk] at g1
        obtain ⟨_, hrl, hrc⟩ := World.cells?_some g1
        obtain ⟨_, ha⟩ := F _ _ _ g2
        have hm : j % k < k := Nat.mod_lt _ hk0
        have hrow : row[j % k]? = some (row[j % k]'(by omega)) := List.getElem?_eq_getElem _
        obtain ⟨n, hn⟩ := ha _ (List.getElem_mem (l := row) (n := j % k) (by omega))
        refine ⟨n, fun _ => ?_⟩
        have := hrc (j % k) hm
        rw [hrow, hn] at this
        rw [← this]
        congr 1
        have hdm := Nat.div_add_mod' j k
        generalize j / k * k = u at hdm
        generalize j % k = z at hdm
        simp only [Addr.add]
        split <;> split <;> simp <;> omega
      · exact ⟨0, fun h => absurd h hj⟩
    refine ⟨len, fun j => (hcell j).choose, Or.inr ⟨R, off, cap, rfl, hlc, IRel.of_get fun i a ha => ?_, trivial⟩⟩
    have hi : i < len * k := by
      rcases Nat.lt_or_ge i (len * k) with h | h
      · exact h
      · rw [List.getElem?_eq_none (by simpa using h)] at ha; cases ha
    rw [List.getElem?_map, List.getElem?_range hi] at ha
    simp only [Option.map_some, Option.some.injEq] at ha
    subst ha
    exact ⟨_, (hcell i).choose_spec hi, rfl, rfl⟩
theorem cells_range {α : Type} {f : α → List AVal} {k : Nat} {mk : Nat → α} {vals : Nat → Int} (hf : ∀ i, f (mk i) = (List.range k).map fun j => i64 (vals (i * k + j))) (n : Nat) : cellsOf f ((List.range n).map mk) = (List.range (n * k)).map fun j => i64 (vals j) := by
  induction n with
  | zero => simp [cells_nil]
  | succ n ih =>
    rw [List.range_succ, List.map_append, cells_append, ih, Nat.add_mul, Nat.one_mul, List.range_add, List.map_append]
    congr 1
    simp only [List.map_cons, List.map_nil, cells_cons, cells_nil, List.append_nil, hf, List.map_map]
    rfl
end

section
variable {H : Type} {enc : TypeId × Value → H} {w : World}
theorem c3 : Try.prog.cellsOf 3 = 1 := by kernel_rfl
theorem c46 : Try.prog.cellsOf 46 = 2 := by kernel_rfl
theorem c85 : Try.prog.cellsOf 85 = 4 := by kernel_rfl
theorem c88 : Try.prog.cellsOf 88 = 3 := by kernel_rfl
theorem c22 : Try.prog.cellsOf 22 = 1 := by kernel_rfl
theorem c23 : Try.prog.cellsOf 23 = 1 := by kernel_rfl
theorem c25 : Try.prog.cellsOf 25 = 3 := by kernel_rfl
theorem F3 : Flat enc Try.prog w 3 1 := flat_int Try.underlying3
theorem F46 : Flat enc Try.prog w 46 2 := flat_two Try.underlying46 rfl ⟨rfl, rfl, c3⟩ ⟨rfl, rfl, c3⟩ c46 F3 F3
theorem F85 : Flat enc Try.prog w 85 4 := flat_three Try.underlying85 rfl ⟨rfl, rfl, c3⟩ ⟨rfl, rfl, c3⟩ ⟨rfl, rfl, c46⟩ c85 F3 F3 F46
theorem F88 : Flat enc Try.prog w 88 3 := flat_two Try.underlying88 rfl ⟨rfl, rfl, c3⟩ ⟨rfl, rfl, c46⟩ c88 F3 F46
theorem spot_of_ok {P : Program} {base : Nat} {t e : TypeId} {v : Value} (hu : P.underlying t = some (.slice e)) (h : Cell.okWide P w .any base t v) : ∀ a len cap, v = .slice (some a) len cap → a.spot = none := by
  rintro a len cap rfl
  unfold Cell.okWide at h
  rw [hu] at h
  unfold Cell.ok at h
  rw [hu] at h
  exact h.2.2.2.1
theorem rel_ents {t : TypeId} (hu : Try.prog.underlying t = some (.slice 85)) {fuel : Nat} {v : Value} {x : DataW H × List MemPlace} (h : trd enc Try.prog w fuel t [v] = some x) (hs : ∀ a len cap, v = .slice (some a) len cap → a.spot = none) : ∃ l : List Ent, VRel (rho0 w) (sl cE l) v := by
  obtain ⟨len, vals, hv⟩ := slice_vals hu c85 F85 h hs
  refine ⟨(List.range len).map fun i => ⟨vals (i * 4 + 0), vals (i * 4 + 1), ⟨vals (i * 4 + 2), vals (i * 4 + 3)⟩⟩, ?_⟩
  have hc := cells_range (f := cE) (k := 4) (mk := fun i => ⟨vals (i * 4 + 0), vals (i * 4 + 1), ⟨vals (i * 4 + 2), vals (i * 4 + 3)⟩⟩) (vals := vals) (fun i => rfl) len
  rw [← hc] at hv
  simpa [sl, lenOf] using hv
theorem rel_says {t : TypeId} (hu : Try.prog.underlying t = some (.slice 88)) {fuel : Nat} {v : Value} {x : DataW H × List MemPlace} (h : trd enc Try.prog w fuel t [v] = some x) (hs : ∀ a len cap, v = .slice (some a) len cap → a.spot = none) : ∃ l : List Say, VRel (rho0 w) (sl cS l) v := by
  obtain ⟨len, vals, hv⟩ := slice_vals hu c88 F88 h hs
  refine ⟨(List.range len).map fun i => ⟨vals (i * 3 + 0), ⟨vals (i * 3 + 1), vals (i * 3 + 2)⟩⟩, ?_⟩
  have hc := cells_range (f := cS) (k := 3) (mk := fun i => ⟨vals (i * 3 + 0), ⟨vals (i * 3 + 1), vals (i * 3 + 2)⟩⟩) (vals := vals) (fun i => rfl) len
  rw [← hc] at hv
  simpa [sl, lenOf] using hv
theorem rel_slate {base : Nat} {v : Value} {d : DataW H} {p : List MemPlace} (hok : Value.okWide Try.prog w .any base 25 v) (h : DataW.Trod enc Try.prog w 0 (fun _ => true) true 25 v d p) : ∃ S : Slate, VRel (rho0 w) (vSl S) v := by
  obtain ⟨fuel, h⟩ := h
  unfold Value.okWide at hok
  rw [Try.underlying25] at hok
  obtain ⟨cs, rfl, hsz, ts, hts, _, hrow⟩ := hok
  rw [c25] at hsz
  have hts' : Try.prog.cellTypes Try.prog.depth 25 = some [3, 22, 23] := by kernel_rfl
  rw [hts'] at hts
  cases hts
  obtain ⟨l⟩ := cs
  simp only [List.size_toArray] at hsz
  match l, hsz with
  | [x0, x1, x2], _ =>
    obtain ⟨_, fuel', he⟩ := trd_struct Try.underlying25 h
    simp only [Value.cells, List.mem_cons, List.not_mem_nil, or_false, forall_eq_or_imp, forall_eq, c3, c22, c23] at he
    obtain ⟨⟨y0, h0⟩, ⟨y1, h1⟩, ⟨y2, h2⟩⟩ := he
    obtain ⟨_, a0⟩ := F3 _ _ _ h0
    obtain ⟨n, hn⟩ := a0 x0 (by simp)
    obtain ⟨u1, e1, o1⟩ := hrow 1 x1 rfl
    obtain ⟨u2, e2, o2⟩ := hrow 2 x2 rfl
    cases e1; cases e2
    obtain ⟨es, r1⟩ := rel_ents Try.underlying22 h1 (spot_of_ok Try.underlying22 o1)
    obtain ⟨ss, r2⟩ := rel_says Try.underlying23 h2 (spot_of_ok Try.underlying23 o2)
    refine ⟨⟨n, es, ss⟩, _, rfl, x0, [x1, x2], rfl, by subst hn; rfl, hn, x1, [x2], rfl, ?_, r1, x2, [], rfl, ?_, r2, rfl⟩
    · rcases r1 with ⟨_, _, _, h⟩ | ⟨_, _, _, h, _⟩ <;> rw [h] <;> rfl
    · rcases r2 with ⟨_, _, _, h⟩ | ⟨_, _, _, h, _⟩ <;> rw [h] <;> rfl

theorem stays_all {P : Program} (hl : laidOutB P = true) {W W' : World} {sp : Nat → Bool} : ∀ {ts : List TypeId} {vs : List Value} {ds : List (DataW H)} {ps : List MemPlace}, (∀ t ∈ ts, P.readableRec t = true ∧ t < P.types.size) →
    DataW.TrodAll enc P W 0 (fun _ => true) true ts vs ds ps → (∀ p ∈ ps, W.sameAt W' p) → (∀ p ∈ ps, sp p.block = true) → DataW.TrodAll enc P W' 0 sp true ts vs ds ps
  | [], vs, ds, ps, _, h, _, _ => by
    cases vs <;> cases ds <;> simp_all [DataW.TrodAll]
  | t :: ts, vs, ds, ps, hr, h, hs, hp => by
    obtain ⟨v, vs', d, ds', p, q, rfl, rfl, rfl, hd, hrest⟩ := trodAll_cons h
    obtain ⟨r1, r2⟩ := hr t (by simp)
    exact ⟨p, q, Go.WideElems.Trod_stays hl r1 r2 hd (fun x hx => hs x (by simp [hx])) (fun x hx => hp x (by simp [hx])), stays_all hl (fun t ht => hr t (by simp [ht])) hrest (fun x hx => hs x (by simp [hx])) (fun x hx => hp x (by simp [hx])), rfl⟩
theorem laid : laidOutB Try.prog = true := by kernel_rfl
theorem shut_true {f : Func} {s : ChangeSpec} {W W' : World} {args : Array Value} {ds : List (DataW H)} {before : List MemPlace} {ρ' : Rho} (hW : DataW.Whole enc Try.prog f.params.toList s.vars false W args.toList ds [] before) (hv : s.vars = [])
    (hr : f.resultTypes.toList = [4]) (hrd : ∀ t ∈ f.params.toList, Try.prog.readableRec t = true ∧ t < Try.prog.types.size) (h1 : (s.fn H (ds ++ [])).results = [.lit (.bool true)]) (h2 : (s.fn H (ds ++ [])).args = ds) (h3 : (s.fn H (ds ++ [])).vars = [])
    (hF : Fwd (rho0 W) W ρ' W') : s.post enc Try.prog f false true false false W args (.bool true) W' := by
  have hb : ∀ R, R < W.heap.size → W'.heap[R]? = W.heap[R]? := fun R hR => hF.kept R hR (by
    rintro (⟨b, hb⟩ | ⟨p, r, hp, _⟩)
    · cases hb
    · cases hp)
  have hlt := hW.lt
  have hW0 := hW
  obtain ⟨p, q, hA, hV, rfl, _, _⟩ := hW0
  rw [hv] at hV
  obtain ⟨_, rfl⟩ := trodVars_none hV
  rw [List.append_nil] at hlt
  have hargs : DataW.TrodAll enc Try.prog W' 0 (fun b => decide (b < W.heap.size)) true f.params.toList args.toList ds p := by
    refine stays_all laid hrd hA (fun x hx => ?_) (fun x hx => by simpa using hlt x hx)
    cases x with
    | cell b o => exact World.cell?_of_block (w := W) (hb b (hlt _ hx))
    | map b => exact hb b (hlt _ hx)
  have hrs : f.resultTypes.size = 1 := by rw [← Array.length_toList, hr]; rfl
  refine ⟨ds, [], _, [], p, [], hW, ?_, ?_, ?_, ⟨hF.os, hF.output, fun i hi => ?_⟩, fun h => by cases h⟩
  · rw [h1, hr, hrs]
    refine trodAll_mk1 ⟨1, ?_⟩
    simp [DataW.trod, Try.underlying4, Value.cells]
  · rw [h2]; exact hargs
  · rw [h3, hv]; rfl
  · rw [hb i hi]; split <;> simp_all
end
theorem thin_len {S : Slate} (h : thin S = true) : S.es.length ≤ 8 ∧ S.ss.length ≤ 7 := by
  unfold thin at h
  simp only [Bool.and_eq_true, Bool.not_eq_true', Bool.or_eq_false_iff, decide_eq_false_iff_not] at h
  obtain ⟨⟨h1, h2⟩, _⟩ := h
  unfold lenOf at h1 h2
  omega
end Go.Proofs.Ytlhfeiacigmliaa

/- The wash-house's soap: a slate with some of its sayings, and whether it has a truth. -/
namespace Go.Proofs.Ytlhfeiacigmliaa
open Go
set_option maxRecDepth 100000

end Go.Proofs.Ytlhfeiacigmliaa

/- The plain law of the fewest payments' number: the program's and the document's. -/
namespace Go.Proofs.Ytlhfeiacigmliaa
open Go
set_option maxRecDepth 100000

theorem eq6_fun {a b : Nat → Int} (h : eq6 a b = true) : ∀ j, j < 6 → a j = b j := fun j hj => eq6_at h hj
theorem payV_same {S : Slate} {L : List Int} (hc : checkSlate S = 0) (ha : areOz S.es L = true) : payV (owV S.es L) = payR S L := by
  have hG := good_of_check hc
  have hs := small_ow hG ha
  have hT : ∀ g, g < 64 → togA S.es L g = ps (owV S.es L) g := fun g hg => togA_ps hs hg
  unfold payV payR
  rw [open_same hc ha, most_same hs hT (openN_lt _) (open_zero hc ha)]
theorem most_bound (a : Nat → Int) {w : Nat} (hs : Small a) (hw : w < 64) : mostN a w ≤ pc w := by
  obtain ⟨u, h1, h2, _⟩ := most_part hs w hw
  have h3 := h2.le (Nat.lt_of_le_of_lt h1.le hw)
  have h4 : pc u ≤ pc w := by
    by_cases he : bsub w u = 0
    · have : u = w := by
        apply Nat.eq_of_testBit_eq
        intro i
        have h := h1 i
        have h5 : (bsub w u).testBit i = false := by rw [he]; simp
        rw [bsub_t] at h5
        cases hu : u.testBit i <;> cases hwi : w.testBit i <;> simp_all
      rw [this]; exact Nat.le_refl _
    · have := (pc_facts w hw).2 (bsub w u) (Nat.lt_of_le_of_lt (sb_sub _ _).le hw) he (sb_band (sb_sub w u))
      rw [sub_sub h1] at this; omega
  omega
/-- `mostN` looks at the six women alone. -/
theorem sumUp_congr {a b : Nat → Int} (h : ∀ j, j < 6 → a j = b j) (w : Nat) : ∀ (k i : Nat) (n : Int), i + k ≤ 6 → sumUp a w n i k = sumUp b w n i k
  | 0, _, _, _ => rfl
  | k + 1, i, n, hk => by
    rw [sumUp, sumUp, h i (by omega)]
    exact sumUp_congr h w k (i + 1) _ (by omega)
theorem mostF_congr {a b : Nat → Int} (h : ∀ j, j < 6 → a j = b j) : ∀ f w, mostF a f w = mostF b f w
  | 0, _ => rfl
  | f + 1, w => by
    rw [mostF, mostF]
    have : mostF a f = mostF b f := funext (mostF_congr h f)
    unfold sumA
    rw [this, sumUp_congr h w 6 0 0 (by omega)]
theorem openUp_congr {a b : Nat → Int} (h : ∀ j, j < 6 → a j = b j) : ∀ (k i n : Nat), i + k ≤ 6 → openUp a n i k = openUp b n i k
  | 0, _, _, _ => rfl
  | k + 1, i, n, hk => by
    rw [openUp, openUp, h i (by omega)]
    exact openUp_congr h k (i + 1) _ (by omega)
theorem payV_congr {a b : Nat → Int} (h : ∀ j, j < 6 → a j = b j) : payV a = payV b := by
  unfold payV mostN
  have : openN a = openN b := openUp_congr h 6 0 0 (by omega)
  rw [this, mostF_congr h]
theorem payR_small {S : Slate} {L : List Int} (hc : checkSlate S = 0) (ha : areOz S.es L = true) : 0 ≤ payR S L ∧ payR S L ≤ 6 := by
  have hG := good_of_check hc
  have hs := small_ow hG ha
  rw [← payV_same hc ha]
  unfold payV
  have h1 := most_bound (owV S.es L) hs (openN_lt (owV S.es L))
  have h2 := (pc_facts _ (openN_lt (owV S.es L))).1
  have hl : lenOf (bitsOf (openN (owV S.es L))) = pc (openN (owV S.es L)) := rfl
  rw [hl, fold_sub, wr_in] <;> simp <;> omega
theorem fewest_same {S : Slate} (hc : checkSlate S = 0) (h0 : asked S ≠ []) : pBounds payV (asked S) = fewestR S (truths S (prodN S.es)) := by
  have hG := good_of_check hc
  have hv : ∀ a L, L ∈ truths S (prodN S.es) → eq6 a (owV S.es L) = true → payV a = payR S L := by
    intro a L hL he
    rw [payV_congr (eq6_fun he), payV_same hc ((mem_truths hG L).1 hL).1]
  unfold fewestR
  obtain ⟨p1, ⟨a1, ha1, e1⟩, ⟨a2, ha2, e2⟩⟩ := pBounds_spec payV (asked S) h0
  obtain ⟨_, b1, b2, b3⟩ := boundsUp_spec (payR S) (truths S (prodN S.es)) 1099511627776 (-1099511627776)
  obtain ⟨L1, hL1, q1⟩ := asked_truth hG ha1
  obtain ⟨L2, hL2, q2⟩ := asked_truth hG ha2
  have v1 := hv a1 L1 hL1 (by rw [q1]; exact eq6_refl _)
  have v2 := hv a2 L2 hL2 (by rw [q2]; exact eq6_refl _)
  have g1 := payR_small hc ((mem_truths hG L1).1 hL1).1
  have g2 := payR_small hc ((mem_truths hG L2).1 hL2).1
  have c1 := b1 L1 hL1
  have c2 := b1 L2 hL2
  refine Prod.ext ?_ ?_
  · rcases b2 with h | ⟨L, hL, h⟩
    · omega
    · obtain ⟨a, ha, he⟩ := truth_asked hG hL
      have := p1 a ha
      have := hv a L hL he
      omega
  · rcases b3 with h | ⟨L, hL, h⟩
    · omega
    · obtain ⟨a, ha, he⟩ := truth_asked hG hL
      have := p1 a ha
      have := hv a L hL he
      omega
end Go.Proofs.Ytlhfeiacigmliaa
