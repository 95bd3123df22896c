/- The plain law of payments: those that the program returns settle all, they are the fewest, and no others that settle all are fewer. -/
import Derived.Test.YtlhfeiacigmliaaPartI
import Derived.Test.YtlhfeiacigmliaaPartH
set_option linter.all false
namespace Go.Proofs.Ytlhfeiacigmliaa
open Go
set_option maxRecDepth 100000

def payD (x : Pay) (j : Nat) : Int := (if x.fr = Int.ofNat j then x.oz else 0) - (if x.to = Int.ofNat j then x.oz else 0)
def paysD : List Pay → Nat → Int
  | [], _ => 0
  | x :: l, j => payD x j + paysD l j
/-- A payment between two of so many women. -/
def PayW (w : Nat) (x : Pay) : Prop := ∃ f t : Nat, f < w ∧ t < w ∧ f ≠ t ∧ x.fr = Int.ofNat f ∧ x.to = Int.ofNat t ∧ 1 ≤ x.oz ∧ x.oz ≤ 240
theorem paysD_append : ∀ (l l' : List Pay) (j : Nat), paysD (l ++ l') j = paysD l j + paysD l' j
  | [], l', j => by simp [paysD]
  | x :: l, l', j => by simp only [List.cons_append, paysD, paysD_append l l' j]; omega
theorem payD_mk (f t : Nat) (n : Int) (j : Nat) : payD ⟨Int.ofNat f, Int.ofNat t, n⟩ j = dl f n j - dl t n j := by
  unfold payD dl
  simp only [Int.ofNat_eq_natCast, Int.ofNat_inj]

def sumL (a : Nat → Int) : List Nat → Int
  | [] => 0
  | j :: l => a j + sumL a l
theorem sumL_put {a : Nat → Int} {x : Nat} (v : Int) : ∀ {gs : List Nat}, gs.Nodup → x ∈ gs → sumL (put a x v) gs = sumL a gs - a x + v
  | [], _, h => by simp at h
  | y :: gs, hn, h => by
    rw [List.nodup_cons] at hn
    simp only [sumL]
    by_cases hy : y = x
    · subst hy
      have : sumL (put a y v) gs = sumL a gs := by
        have : ∀ l : List Nat, y ∉ l → sumL (put a y v) l = sumL a l := by
          intro l
          induction l with
          | nil => intro _; rfl
          | cons z l ih =>
            intro hz
            simp only [List.mem_cons, not_or] at hz
            simp only [sumL, ih hz.2, put, if_neg (Ne.symm hz.1)]
        exact this gs hn.1
      rw [this]; simp only [put, if_true]; omega
    · have hx : x ∈ gs := by
        rcases List.mem_cons.mp h with h | h
        · exact absurd h.symm hy
        · exact h
      rw [sumL_put v hn.2 hx]; simp only [put, if_neg hy]; omega
theorem openC_zero {a : Nat → Int} : ∀ {gs : List Nat}, openC a gs = 0 ↔ ∀ j ∈ gs, a j = 0
  | [] => by simp [openC]
  | y :: gs => by
    have ih := openC_zero (a := a) (gs := gs)
    simp only [openC, List.mem_cons, forall_eq_or_imp]
    by_cases h : a y = 0
    · simp only [h, if_true, true_and]; rw [← ih]; omega
    · rw [if_neg h]; exact ⟨fun h' => by omega, fun h' => absurd h'.1 h⟩
theorem find_none {gs : List Nat} {P : Nat → Bool} (h : gs.findIdx? P = none) : ∀ j ∈ gs, P j = false := by
  simpa using h
theorem sum_zero_neg {a : Nat → Int} : ∀ {gs : List Nat}, (∀ j ∈ gs, 0 ≤ a j) → 0 ≤ sumL a gs ∧ (sumL a gs = 0 → ∀ j ∈ gs, a j = 0)
  | [], _ => by simp [sumL]
  | y :: gs, h => by
    have ih := sum_zero_neg (a := a) (gs := gs) fun j hj => h j (by simp [hj])
    have hy := h y (by simp)
    simp only [sumL]
    refine ⟨by omega, fun hz j hj => ?_⟩
    rcases List.mem_cons.mp hj with hj | hj
    · subst hj; omega
    · exact ih.2 (by omega) j hj
theorem sum_zero_pos {a : Nat → Int} : ∀ {gs : List Nat}, (∀ j ∈ gs, a j ≤ 0) → sumL a gs ≤ 0 ∧ (sumL a gs = 0 → ∀ j ∈ gs, a j = 0)
  | [], _ => by simp [sumL]
  | y :: gs, h => by
    have ih := sum_zero_pos (a := a) (gs := gs) fun j hj => h j (by simp [hj])
    have hy := h y (by simp)
    simp only [sumL]
    refine ⟨by omega, fun hz j hj => ?_⟩
    rcases List.mem_cons.mp hj with hj | hj
    · subst hj; omega
    · exact ih.2 (by omega) j hj
/-- What settleF does to a group whose sum is 0. -/
theorem settleF_law {gs : List Nat} (hn : gs.Nodup) {w : Nat} (hw : ∀ j ∈ gs, j < w) : ∀ (f : Nat) (a : Nat → Int), openC a gs < f → (∀ j, -240 ≤ a j ∧ a j ≤ 240) → sumL a gs = 0 →
    (∀ x ∈ settleF f a gs, PayW w x) ∧ (∀ j ∈ gs, a j + paysD (settleF f a gs) j = 0) ∧ (∀ j, j ∉ gs → paysD (settleF f a gs) j = 0) ∧ (settleF f a gs).length ≤ openC a gs - 1 := by
  intro f
  induction f with
  | zero => intro a h; omega
  | succ f ih =>
    intro a hf hs hz
    have done : (∀ j ∈ gs, a j = 0) → (∀ x ∈ ([] : List Pay), PayW w x) ∧ (∀ j ∈ gs, a j + paysD [] j = 0) ∧ (∀ j, j ∉ gs → paysD [] j = 0) ∧ ([] : List Pay).length ≤ openC a gs - 1 := by
      intro h
      refine ⟨by simp, fun j hj => by rw [h j hj]; rfl, fun _ _ => rfl, by simp⟩
    rw [settleF]
    cases h1 : gs.findIdx? (fun j => decide (a j < 0)) with
    | none =>
      simp only
      refine done fun j hj => (sum_zero_neg fun j hj => ?_).2 hz j hj
      have := find_none h1 j hj
      simp only [decide_eq_false_iff_not] at this; omega
    | some i =>
      cases h2 : gs.findIdx? (fun j => decide (0 < a j)) with
      | none =>
        simp only
        refine done fun j hj => (sum_zero_pos fun j hj => ?_).2 hz j hj
        have := find_none h2 j hj
        simp only [decide_eq_false_iff_not] at this; omega
      | some k =>
        obtain ⟨hil, hia⟩ := find_get h1
        obtain ⟨hkl, hka⟩ := find_get h2
        simp only [decide_eq_true_eq] at hia hka
        have gx : gs.getD i 0 = gs[i] := by simp [hil]
        have gy : gs.getD k 0 = gs[k] := by simp [hkl]
        simp only [gx, gy]
        have mx' : gs[i] ∈ gs := List.getElem_mem hil
        have my' : gs[k] ∈ gs := List.getElem_mem hkl
        generalize gs[i] = x at hia mx' ⊢
        generalize gs[k] = y at hka my' ⊢
        have hxy : x ≠ y := fun h => by subst h; omega
        have sx := hs x
        have sy := hs y
        have hn2 : mn (-a x) (a y) = -a x ∨ mn (-a x) (a y) = a y := by unfold mn; omega
        have hnp : 0 < mn (-a x) (a y) ∧ mn (-a x) (a y) ≤ -a x ∧ mn (-a x) (a y) ≤ a y := by unfold mn; omega
        generalize mn (-a x) (a y) = n at hn2 hnp ⊢
        have hpy : put a x (a x + n) y = a y := by simp [put, Ne.symm hxy]
        rw [hpy]
        have v : ∀ j, put (put a x (a x + n)) y (a y - n) j = a j + (dl x n j - dl y n j) := by
          intro j
          unfold put dl
          by_cases h2 : j = y
          · subst h2; simp only [if_true, if_neg hxy]; omega
          · by_cases h3 : j = x
            · subst h3; simp only [if_true, if_neg h2, if_neg (Ne.symm h2)]; omega
            · simp only [if_neg h2, if_neg h3, if_neg (Ne.symm h2), if_neg (Ne.symm h3)]; omega
        have hle : openC (put (put a x (a x + n)) y (a y - n)) gs < openC a gs := by
          rcases hn2 with h | h
          · refine openC_lt (fun j _ hj => ?_) mx' (by omega) ?_
            · have h1 : j ≠ x := fun h => by subst h; omega
              have h2 : j ≠ y := fun h => by subst h; omega
              simp [put, h1, h2, hj]
            · simp [put, hxy]; omega
          · refine openC_lt (fun j _ hj => ?_) my' (by omega) ?_
            · have h1 : j ≠ x := fun h => by subst h; omega
              have h2 : j ≠ y := fun h => by subst h; omega
              simp [put, h1, h2, hj]
            · simp only [put, if_true]; omega
        have h2o : 2 ≤ openC a gs := by
          have h1 : openC (put a x 0) gs < openC a gs := openC_lt (fun j _ hj => by unfold put; split <;> simp [hj]) mx' (by omega) (by simp [put])
          have h2 : openC (put a x 0) gs ≠ 0 := fun h => by
            have := openC_zero.1 h y my'
            simp only [put, if_neg (Ne.symm hxy)] at this; omega
          omega
        have hsum : sumL (put (put a x (a x + n)) y (a y - n)) gs = 0 := by
          rw [sumL_put _ hn my', sumL_put _ hn mx', hpy]; omega
        obtain ⟨i1, i2, i3, i4⟩ := ih (put (put a x (a x + n)) y (a y - n)) (by omega) (fun j => by
          rw [v]; unfold dl
          have := hs j
          by_cases h2 : y = j
          · subst h2; simp only [if_true, if_neg hxy]; omega
          · by_cases h3 : x = j
            · subst h3; simp only [if_true, if_neg h2]; omega
            · simp only [if_neg h2, if_neg h3]; omega) hsum
        refine ⟨?_, ?_, ?_, ?_⟩
        · intro p hp
          rcases List.mem_cons.mp hp with hp | hp
          · subst hp
            exact ⟨x, y, hw x mx', hw y my', hxy, rfl, rfl, by simp only; omega, by simp only; omega⟩
          · exact i1 p hp
        · intro j hj
          have := i2 j hj
          rw [v] at this
          rw [paysD, payD_mk]; omega
        · intro j hj
          have hjx : x ≠ j := fun h => by subst h; exact hj mx'
          have hjy : y ≠ j := fun h => by subst h; exact hj my'
          rw [paysD, payD_mk, i3 j hj]; unfold dl; rw [if_neg hjx, if_neg hjy]; rfl
        · simp only [List.length_cons]
          omega

theorem nats_bits {g : Nat} (hg : g < 64) : nats (bitsOf g) = (List.range 6).filter g.testBit := by
  rw [bits_list g hg]
  unfold nats ints
  rw [List.map_map]
  have : (Int.toNat ∘ Int.ofNat) = id := rfl
  rw [this, List.map_id]
theorem sumL_filter (a : Nat → Int) (g : Nat) : ∀ l : List Nat, sumL a (l.filter g.testBit) = psl a g l
  | [] => rfl
  | i :: l => by
    rw [psl]
    unfold term
    by_cases h : g.testBit i = true
    · rw [List.filter_cons_of_pos h, sumL, sumL_filter a g l, if_pos h]
    · rw [List.filter_cons_of_neg h, sumL_filter a g l, if_neg h]; omega
theorem psl_6 (a : Nat → Int) (g : Nat) : psl a g (List.range 6) = ps a g := by
  show psl _ _ [0, 1, 2, 3, 4, 5] = _
  simp only [psl, ps]; omega
theorem pc_sub : ∀ w, w < 64 → ∀ g, g < 64 → band g w = g → pc g + pc (bsub w g) = pc w := by
  have h : ((List.range 64).all fun w => (List.range 64).all fun g => (!decide (band g w = g) || decide (pc g + pc (bsub w g) = pc w))) = true := by kernel_rfl
  intro w hw g hg h2
  rw [List.all_eq_true] at h
  have h4 := h w (by simpa using hw)
  rw [List.all_eq_true] at h4
  have h5 := h4 g (by simpa using hg)
  simpa [h2] using h5
theorem pc_pos : ∀ w, w < 64 → w ≠ 0 → 0 < pc w := by
  have h : ((List.range 64).all fun w => decide (w = 0) || decide (0 < pc w)) = true := by kernel_rfl
  intro w hw h0
  rw [List.all_eq_true] at h
  have h1 := h w (by simpa using hw)
  simpa [h0] using h1
theorem settleG_law {a : Nat → Int} {g w : Nat} (hg : g < 64) (hw : ∀ j, g.testBit j = true → j < w) (hs : ∀ j, -240 ≤ a j ∧ a j ≤ 240) (hz : ps a g = 0) :
    (∀ x ∈ settleG a (bitsOf g), PayW w x) ∧ (∀ j, g.testBit j = true → a j + paysD (settleG a (bitsOf g)) j = 0) ∧ (∀ j, g.testBit j = false → paysD (settleG a (bitsOf g)) j = 0) ∧ (settleG a (bitsOf g)).length ≤ pc g - 1 := by
  unfold settleG
  rw [nats_bits hg]
  have hm : ∀ j, j ∈ (List.range 6).filter g.testBit ↔ g.testBit j = true := by
    intro j
    rw [List.mem_filter, List.mem_range]
    exact ⟨fun h => h.2, fun h => ⟨bit_lt6 hg h, h⟩⟩
  have hl : ((List.range 6).filter g.testBit).length = pc g := by unfold pc; rw [bits_list g hg]; simp [ints]
  have ho := openC_len a ((List.range 6).filter g.testBit)
  have h6 := (pc_facts g hg).1
  obtain ⟨h1, h2, h3, h4⟩ := settleF_law (gs := (List.range 6).filter g.testBit) (List.nodup_range.sublist List.filter_sublist) (w := w) (fun j hj => hw j ((hm j).1 hj)) 1000 a (by omega) hs (by rw [sumL_filter, psl_6]; exact hz)
  refine ⟨h1, fun j hj => h2 j ((hm j).2 hj), fun j hj => h3 j (fun h => by rw [(hm j).1 h] at hj; cases hj), by omega⟩
theorem settle_groups {a : Nat → Int} {w : Nat} (hs : ∀ j, -240 ≤ a j ∧ a j ≤ 240) : ∀ {gs : List Nat} {left : Nat}, left < 64 → (∀ j, left.testBit j = true → j < w) → GrpsOk (ps a) left gs →
    (∀ x ∈ (gs.map bitsOf).flatMap (settleG a), PayW w x) ∧ (∀ j, left.testBit j = true → a j + paysD ((gs.map bitsOf).flatMap (settleG a)) j = 0) ∧ (∀ j, left.testBit j = false → paysD ((gs.map bitsOf).flatMap (settleG a)) j = 0) ∧ ((gs.map bitsOf).flatMap (settleG a)).length + gs.length ≤ pc left
  | [], left, _, _, h => by
    obtain rfl : left = 0 := h
    exact ⟨by simp, fun j hj => by simp at hj, fun _ _ => rfl, by simp⟩
  | g :: gs, left, hl, hw, h => by
    obtain ⟨h1, h2, h3, h4⟩ := h
    have hsb := band_sb h2
    have hg : g < 64 := Nat.lt_of_le_of_lt hsb.le hl
    have hrest : bsub left g < 64 := Nat.lt_of_le_of_lt (sb_sub _ _).le hl
    obtain ⟨a1, a2, a3, a4⟩ := settleG_law (a := a) (w := w) hg (fun j hj => hw j (hsb j hj)) hs h3
    obtain ⟨b1, b2, b3, b4⟩ := settle_groups (a := a) (w := w) hs hrest (fun j hj => hw j (sb_sub _ _ j hj)) h4
    have hpc := pc_sub left hl g hg h2
    have hpp := pc_pos g hg h1
    rw [List.map_cons, List.flatMap_cons]
    refine ⟨?_, ?_, ?_, ?_⟩
    · intro x hx
      rcases List.mem_append.mp hx with hx | hx
      · exact a1 x hx
      · exact b1 x hx
    · intro j hj
      rw [paysD_append]
      cases hgj : g.testBit j with
      | true =>
        have hf : (bsub left g).testBit j = false := by rw [bsub_t, hgj]; simp
        have := a2 j hgj
        rw [b3 j hf]; omega
      | false =>
        have hf : (bsub left g).testBit j = true := by rw [bsub_t, hgj, hj]; rfl
        have := b2 j hf
        rw [a3 j hgj]; omega
    · intro j hj
      have hgj : g.testBit j = false := by
        cases h : g.testBit j with
        | false => rfl
        | true => rw [hsb j h] at hj; cases hj
      have hf : (bsub left g).testBit j = false := by rw [bsub_t, hj]; rfl
      rw [paysD_append, a3 j hgj, b3 j hf]; rfl
    · rw [List.length_append, List.length_cons]; omega

theorem Part.single : ∀ {a : Nat → Int}, (∀ j, j < 6 → a j = 0) → Part a 63 6 := by
  intro a h
  have key : ∀ {w n : Nat} (i : Nat), i < 6 → w.testBit i = true → Part a (bsub w (pw i)) n → Part a w (n + 1) := by
    intro w n i hi hb hp
    refine .cons (g := pw i) (bit_ne (i := i) (by rw [pw_t]; simp)) (sb_pw hb) ?_ hp
    have ht : ∀ k, k < 6 → term a (pw i) k = 0 := by
      intro k hk; unfold term; split
      · exact h k hk
      · rfl
    unfold ps
    rw [ht 0 (by omega), ht 1 (by omega), ht 2 (by omega), ht 3 (by omega), ht 4 (by omega), ht 5 (by omega)]; rfl
  refine key (n := 5) 0 (by omega) (by rfl) ?_
  refine key (n := 4) 1 (by omega) (by rfl) ?_
  refine key (n := 3) 2 (by omega) (by rfl) ?_
  refine key (n := 2) 3 (by omega) (by rfl) ?_
  refine key (n := 1) 4 (by omega) (by rfl) ?_
  refine key (n := 0) 5 (by omega) (by rfl) ?_
  exact .nil
/-- Groups of what is owed after a payment make groups of what is owed before it: two are joined at most. -/
theorem Part.unpay {a : Nat → Int} {f t : Nat} (hf : f < 6) (ht : t < 6) {x : Int} {n : Nat} (h : Part (mv a f t x) 63 n) : ∃ m, n ≤ m + 1 ∧ Part a 63 m := by
  obtain ⟨g, m, rfl, h1, h2, h3, h4⟩ := h.extract f (test63 hf)
  by_cases hgt : g.testBit t = true
  · refine ⟨m + 1, by omega, .cons (bit_ne h2) h1 ?_ (h4.congr fun i hi hb => ?_)⟩
    · rw [ps_mv a hf ht, if_pos h2, if_pos hgt] at h3; omega
    · rw [bsub_t] at hb
      have hif : f ≠ i := fun h => by subst h; rw [h2] at hb; simp at hb
      have hit : t ≠ i := fun h => by subst h; rw [hgt] at hb; simp at hb
      unfold mv dl; rw [if_neg hif, if_neg hit]; omega
  · have htr : (bsub 63 g).testBit t = true := by rw [bsub_t, test63 ht]; simp [hgt]
    obtain ⟨g', m', rfl, k1, k2, k3, k4⟩ := h4.extract t htr
    have hgf : g'.testBit f = false := by
      cases h : g'.testBit f with
      | false => rfl
      | true =>
        have := k1 f h
        rw [bsub_t, h2] at this; simp at this
    have hd : Dj g g' := fun i hi => by
      cases h : g'.testBit i with
      | false => rfl
      | true =>
        have := k1 i h
        rw [bsub_t, hi] at this; simp at this
    refine ⟨m' + 1, by omega, .cons (g := bor g g') (bit_ne (i := f) (by rw [bor_t, h2]; rfl)) ?_ ?_ ?_⟩
    · intro i hi
      rw [bor_t, Bool.or_eq_true] at hi
      rcases hi with hi | hi
      · exact h1 i hi
      · exact sb_sub _ _ i (k1 i hi)
    · rw [ps_or a hd]
      rw [ps_mv a hf ht, if_pos h2, if_neg hgt] at h3
      rw [ps_mv a hf ht, hgf, if_pos k2] at k3
      simp only [Bool.false_eq_true, if_false] at k3
      omega
    · rw [sub_or]
      refine k4.congr fun i hi hb => ?_
      rw [bsub_t, bsub_t, Bool.and_eq_true, Bool.and_eq_true] at hb
      have hif : f ≠ i := fun h => by subst h; rw [h2] at hb; simp at hb
      have hit : t ≠ i := fun h => by subst h; rw [k2] at hb; simp at hb
      unfold mv dl; rw [if_neg hif, if_neg hit]; omega
theorem part_pays : ∀ {l : List Pay} {a : Nat → Int}, (∀ x ∈ l, PayW 6 x) → (∀ j, j < 6 → a j + paysD l j = 0) → ∃ n, 6 ≤ n + l.length ∧ Part a 63 n
  | [], a, _, h => ⟨6, by simp, .single fun j hj => by have := h j hj; simpa [paysD] using this⟩
  | x :: l, a, hp, h => by
    obtain ⟨f, t, hf, ht, hne, e1, e2, _, _⟩ := hp x (by simp)
    obtain ⟨n, h1, h2⟩ := part_pays (l := l) (a := mv a f t x.oz) (fun y hy => hp y (by simp [hy])) (fun j hj => by
      have := h j hj
      rw [paysD] at this
      unfold payD at this
      rw [e1, e2] at this
      simp only [Int.ofNat_eq_natCast, Int.ofNat_inj] at this
      unfold mv dl; omega)
    obtain ⟨m, h3, h4⟩ := h2.unpay hf ht
    exact ⟨m, by simp only [List.length_cons]; omega, h4⟩
/-- Women who are owed 0 are left out of groups. -/
theorem Part.open {a : Nat → Int} {w n : Nat} (h : Part a w n) : w < 64 → ∃ m, Part a (band w (openN a)) m ∧ n + pc (band w (openN a)) ≤ m + pc w := by
  induction h with
  | nil => intro _; exact ⟨0, by rw [show band 0 (openN a) = 0 from by unfold band; simp]; exact .nil, by rw [show band 0 (openN a) = 0 from by unfold band; simp]; omega⟩
  | @cons w g n h0 hs hz h ih =>
    intro hw
    have hg : g < 64 := Nat.lt_of_le_of_lt hs.le hw
    have hr : bsub w g < 64 := Nat.lt_of_le_of_lt (sb_sub w g).le hw
    obtain ⟨m, h1, h2⟩ := ih hr
    have hbl : ∀ u, u < 64 → band u (openN a) < 64 := fun u hu => Nat.lt_of_le_of_lt Nat.and_le_left hu
    have e1 : bsub (band w (openN a)) (band g (openN a)) = band (bsub w g) (openN a) := by
      apply Nat.eq_of_testBit_eq
      intro i
      simp only [bsub_t, band_t]
      cases w.testBit i <;> cases g.testBit i <;> cases (openN a).testBit i <;> rfl
    have s1 : Sb (band g (openN a)) (band w (openN a)) := by
      intro i hi
      rw [band_t, Bool.and_eq_true] at hi
      rw [band_t, hs i hi.1, hi.2]; rfl
    have c1 := pc_sub w hw g hg (sb_band hs)
    have c2 := pc_sub (band w (openN a)) (hbl w hw) (band g (openN a)) (hbl g hg) (sb_band s1)
    have hgo : pc (band g (openN a)) ≤ pc g := by
      have h3 : Sb (band g (openN a)) g := fun i hi => by rw [band_t, Bool.and_eq_true] at hi; exact hi.1
      have := pc_sub g hg (band g (openN a)) (hbl g hg) (sb_band h3)
      omega
    have hpz : ps a (band g (openN a)) = ps a g := by
      have ht : ∀ i, i < 6 → term a (band g (openN a)) i = term a g i := by
        intro i hi
        unfold term
        rw [band_t, open_t]
        by_cases h : a i = 0
        · simp [h]
        · simp [h, hi]
      unfold ps
      rw [ht 0 (by omega), ht 1 (by omega), ht 2 (by omega), ht 3 (by omega), ht 4 (by omega), ht 5 (by omega)]
    rw [e1] at c2
    by_cases hgz : band g (openN a) = 0
    · refine ⟨m, ?_, ?_⟩
      · have : band w (openN a) = band (bsub w g) (openN a) := by
          rw [← e1, hgz]
          apply Nat.eq_of_testBit_eq
          intro i; rw [bsub_t]; simp
        rw [this]; exact h1
      · have := pc_pos g hg h0
        rw [hgz] at c2
        have : pc 0 = 0 := rfl
        omega
    · exact ⟨m + 1, .cons hgz s1 (by rw [hpz]; exact hz) (by rw [e1]; exact h1), by omega⟩
theorem pc_63 : pc 63 = 6 := rfl
/-- No payments that settle all are fewer than women who are not owed 0, less the most groups. -/
theorem pays_least {a : Nat → Int} (hs : Small a) {l : List Pay} (hp : ∀ x ∈ l, PayW 6 x) (h : ∀ j, j < 6 → a j + paysD l j = 0) : pc (openN a) ≤ l.length + mostN a (openN a) := by
  obtain ⟨n, h1, h2⟩ := part_pays hp h
  obtain ⟨m, h3, h4⟩ := h2.open (by omega)
  have ho := openN_lt a
  have he : band 63 (openN a) = openN a := by
    apply Nat.eq_of_testBit_eq
    intro i
    rw [band_t]
    cases hi : (openN a).testBit i with
    | false => simp
    | true => rw [test63 (bit_lt6 ho hi)]; rfl
  rw [he] at h3 h4
  have h5 := most_ge hs h3 ho
  rw [pc_63] at h4
  omega
/-- What Settle returns settles all, and is as short as can be. -/
theorem settleA_law {a : Nat → Int} {w : Nat} (hw : w ≤ 6) (hs : ∀ j, -240 ≤ a j ∧ a j ≤ 240) (hz : ps a 63 = 0) (ho : ∀ j, w ≤ j → a j = 0) :
    (∀ x ∈ settleA a, PayW w x) ∧ (∀ j, a j + paysD (settleA a) j = 0) ∧ (settleA a).length + mostN a (openN a) = pc (openN a) := by
  have hsm : Small a := fun j => by have := hs j; omega
  obtain ⟨gs, h1, h2, h3⟩ := groups_law hsm (T := ps a) (fun _ _ => rfl) (by rw [open_ps]; exact hz)
  have hwo : ∀ j, (openN a).testBit j = true → j < w := by
    intro j hj
    rw [open_t, decide_eq_true_eq] at hj
    rcases Nat.lt_or_ge j w with h | h
    · exact h
    · exact absurd (ho j h) hj.2
  obtain ⟨a1, a2, a3, a4⟩ := settle_groups (a := a) (w := w) hs (openN_lt a) hwo h2
  have hA : settleA a = (gs.map bitsOf).flatMap (settleG a) := by unfold settleA; rw [h1]
  rw [← hA] at a1 a2 a3 a4
  have key : ∀ j, a j + paysD (settleA a) j = 0 := by
    intro j
    cases hj : (openN a).testBit j with
    | true => exact a2 j hj
    | false =>
      rw [a3 j hj]
      rw [open_t, decide_eq_false_iff_not] at hj
      rcases Nat.lt_or_ge j 6 with h | h
      · have : a j = 0 := by
          by_cases h0 : a j = 0
          · exact h0
          · exact absurd ⟨h, h0⟩ hj
        omega
      · rw [ho j (by omega)]; rfl
  refine ⟨a1, key, ?_⟩
  have h6 : ∀ x ∈ settleA a, PayW 6 x := fun x hx => by
    obtain ⟨f, t, h1, h2, h3⟩ := a1 x hx
    exact ⟨f, t, by omega, by omega, h3⟩
  have := pays_least hsm h6 (fun j _ => key j)
  omega
end Go.Proofs.Ytlhfeiacigmliaa

/- The plain law of groups and payments of a slate that is valid, with ounces. -/
namespace Go.Proofs.Ytlhfeiacigmliaa
open Go
set_option maxRecDepth 100000

theorem ow240 {S : Slate} {L : List Int} (hc : checkSlate S = 0) (ha : areOz S.es L = true) : ∀ j, -240 ≤ owV S.es L j ∧ owV S.es L j ≤ 240 := by
  have hG := good_of_check hc
  intro j
  rw [owV_plain hG ha]
  have := ow_le (okw_of_check hc) hG.oe ha j
  have := hG.e6
  omega
theorem ow_far {S : Slate} {L : List Int} (hc : checkSlate S = 0) (ha : areOz S.es L = true) : ∀ j, S.women.toNat ≤ j → owV S.es L j = 0 := by
  intro j hj
  rw [owV_plain (good_of_check hc) ha]
  exact ow_out (okw_of_check hc) j hj
theorem ow_zero {S : Slate} {L : List Int} (hc : checkSlate S = 0) (ha : areOz S.es L = true) : ps (owV S.es L) 63 = 0 := by
  have hG := good_of_check hc
  have h6 := hG.w6
  rw [owV_plain hG ha]
  exact ow_sum (w := S.women.toNat) (by omega) (okw_of_check hc)
theorem play_facts {S : Slate} {L : List Int} (hc : checkSlate S = 0) (ha : areOz S.es L = true) : playErr S L = 0 ∧ playOw S L = owV S.es L ∧ playL S L = l6 (owV S.es L) S.women.toNat := by
  have hE : playErr S L = 0 := by unfold playErr; rw [if_neg (by simp [hc]), ha, if_pos rfl]
  have ho : playOw S L = owV S.es L := by unfold playOw; rw [if_pos ⟨hc, ha⟩]
  exact ⟨hE, ho, by unfold playL; rw [if_pos hE, ho]⟩
theorem settle_facts {S : Slate} {L : List Int} (hc : checkSlate S = 0) (ha : areOz S.es L = true) :
    (∀ x ∈ settleP S L, PayW S.women.toNat x) ∧ (∀ j, owV S.es L j + paysD (settleP S L) j = 0) ∧ Int.ofNat (settleP S L).length = payR S L ∧ (settleP S L).length + mostN (owV S.es L) (openN (owV S.es L)) = pc (openN (owV S.es L)) := by
  obtain ⟨hE, ho, _⟩ := play_facts hc ha
  have hG := good_of_check hc
  have hp : settleP S L = settleA (owV S.es L) := by unfold settleP; rw [if_pos hE, ho]
  obtain ⟨h1, h2, h3⟩ := settleA_law (w := S.women.toNat) (by have := hG.w6; omega) (ow240 hc ha) (ow_zero hc ha) (ow_far hc ha)
  rw [hp]
  refine ⟨h1, h2, ?_, h3⟩
  rw [← payV_same hc ha]
  unfold payV
  have hl : lenOf (bitsOf (openN (owV S.es L))) = pc (openN (owV S.es L)) := rfl
  have := (pc_facts _ (openN_lt (owV S.es L))).1
  simp only [Int.ofNat_eq_natCast]
  rw [hl, fold_sub, wr_in] <;> omega
theorem groups_nat {S : Slate} {L : List Int} (hc : checkSlate S = 0) (ha : areOz S.es L = true) : ∃ gs : List Nat, groupsP S L = gs.map bitsOf ∧ GrpsOk (ps (owV S.es L)) (openN (owV S.es L)) gs ∧ gs.length = mostN (owV S.es L) (openN (owV S.es L)) ∧ gs.length ≤ 6 ∧ (∀ g ∈ gs, g < 64) ∧ ∀ x ∈ groupsP S L, x.length ≤ 6 := by
  obtain ⟨hE, ho, _⟩ := play_facts hc ha
  have hs : Small (owV S.es L) := fun j => by have := ow240 hc ha j; omega
  have hlt := openN_lt (owV S.es L)
  obtain ⟨gs, h1, h2, h3⟩ := groups_law hs (T := ps (owV S.es L)) (fun _ _ => rfl) (open_zero hc ha)
  have hp : groupsP S L = gs.map bitsOf := by unfold groupsP; rw [if_pos hE, ho, h1]
  have h6 := (grps_part (fun _ _ => rfl) hlt h2).le hlt
  have hpc := (pc_facts _ hlt).1
  have hg : ∀ g ∈ gs, g < 64 := by
    have : ∀ {gs : List Nat} {left : Nat}, left < 64 → GrpsOk (ps (owV S.es L)) left gs → ∀ g ∈ gs, g < 64 := by
      intro gs
      induction gs with
      | nil => intro _ _ _ g hg; simp at hg
      | cons g gs ih =>
        intro left hl hk x hx
        obtain ⟨_, k2, _, k4⟩ := hk
        rcases List.mem_cons.mp hx with rfl | hx
        · exact Nat.lt_of_le_of_lt (band_sb k2).le hl
        · exact ih (Nat.lt_of_le_of_lt (sb_sub _ _).le hl) k4 x hx
    exact this hlt h2
  refine ⟨gs, hp, h2, h3, by omega, hg, ?_⟩
  intro x hx
  rw [hp, List.mem_map] at hx
  obtain ⟨g, hg', rfl⟩ := hx
  exact (bits_facts 6 (by omega) g (hg g hg')).2.2.2.2
end Go.Proofs.Ytlhfeiacigmliaa

/- The wash-house's soap: what the functions compute: equal lists, in the heap too. -/
namespace Go.Proofs.Ytlhfeiacigmliaa
open Go
set_option maxRecDepth 10000

/-- A value that reads as a list of numbers. -/
structure RdI (s : St) (x : AVal) (L : List Int) : Prop where
  nrm : x.norm = x
  len : lenV x s = some (i64 (Int.ofNat (lenOf L)), s)
  get : ∀ (i : Nat) (v : Int), L[i]? = some v → ∃ r, idxV 1 x (i64 (Int.ofNat i)) s = some (r, s) ∧ look1 s r = some (i64 v)
end Go.Proofs.Ytlhfeiacigmliaa

/- The wash-house's soap: what the functions compute: payments of the other package, ranges in ranges, slates that are closer. -/
namespace Go.Proofs.Ytlhfeiacigmliaa
open Go
set_option maxRecDepth 10000

theorem l55 (w : Int) (es : List Ent) (ss : List Say) (P : List Pay) (hl : P.length < 1000000) (hP : ∀ x ∈ P, payOk w x = true) (s : St) : ∀ (k i : Nat), i + k = P.length →
   lim tbl (.loop a55_l0 34 ⟨[1, 2, 5], [], [4]⟩ [sl cP P, .vref [i64 w, sl cE es, sl cS ss], i64 (Int.ofNat i)]) s = some (.exit 0, [], s) := by
  intro k
  induction k with
  | zero =>
    intro i hi
    rw [lim_loop]
    obtain ⟨N, O, p, q⟩ := s
    (try simp only [go_sem, ↓reduceIte, Nat.reduceAdd, Nat.reduceEqDiff, Nat.reduceLT, Nat.reduceLeDiff, Nat.reduceBEq, Int.reduceEq, Int.reduceLT, Int.reduceLE]); (repeat ((first | (rw [lt_yes]; rotate_left; (first | omega | (simp [lenOf, app]; omega) | (simp only [lenOf]; omega))) | (rw [lt_no]; rotate_left; (first | omega | (simp [lenOf, app]; omega) | (simp only [lenOf]; omega))) | (rw [idxA_at]; rotate_left; (first | omega | (simp [lenOf, app]; omega) | (simp only [lenOf]; omega))) | (rw [wr_up]; rotate_left; (first | omega | (simp [lenOf, app]; omega) | (simp only [lenOf]; omega))) | ((first | rw [drop_cI] | rw [drop_cE] | rw [drop_cS] | rw [drop_cP] | rw [drop_cR]); rotate_left; assumption)); try simp only [go_sem, ↓reduceIte, Nat.reduceAdd, Nat.reduceEqDiff, Nat.reduceLT, Nat.reduceLeDiff, Nat.reduceBEq, Int.reduceEq, Int.reduceLT, Int.reduceLE]))
  | succ k ih =>
    intro i hi
    have hlt : i < P.length := by omega
    obtain ⟨x, hx, _⟩ := getElem_drop hlt
    have hok := hP x (List.mem_of_getElem? hx)
    obtain ⟨f, t, n⟩ := x
    unfold payOk at hok
    rw [Bool.and_eq_true] at hok
    obtain ⟨o1, o2⟩ := hok
    simp only at o1 o2
    have h' := ih (i + 1) (by omega)
    rw [lim_loop]
    generalize hR : some (_, _, _) = R at h' ⊢
    obtain ⟨N, O, p, q⟩ := s
    (try simp only [go_sem, ↓reduceIte, Nat.reduceAdd, Nat.reduceEqDiff, Nat.reduceLT, Nat.reduceLeDiff, Nat.reduceBEq, Int.reduceEq, Int.reduceLT, Int.reduceLE]); (repeat ((first | rw [o1] | rw [o2] | (rw [lt_yes]; rotate_left; (first | omega | (simp [lenOf, app]; omega) | (simp only [lenOf]; omega))) | (rw [lt_no]; rotate_left; (first | omega | (simp [lenOf, app]; omega) | (simp only [lenOf]; omega))) | (rw [idxA_at]; rotate_left; (first | omega | (simp [lenOf, app]; omega) | (simp only [lenOf]; omega))) | (rw [wr_up]; rotate_left; (first | omega | (simp [lenOf, app]; omega) | (simp only [lenOf]; omega))) | ((first | rw [drop_cI] | rw [drop_cE] | rw [drop_cS] | rw [drop_cP] | rw [drop_cR]); rotate_left; assumption)); try simp only [go_sem, ↓reduceIte, Nat.reduceAdd, Nat.reduceEqDiff, Nat.reduceLT, Nat.reduceLeDiff, Nat.reduceBEq, Int.reduceEq, Int.reduceLT, Int.reduceLE]))
    exact h'
theorem k55 (S : Slate) (P : List Pay) (hl : P.length < 1000000) (hP : ∀ x ∈ P, payOk S.women x = true) (s : St) : lim tbl (.call 55 [vSl S, sl cP P]) s = some (.ret, [.bool true], s) := by
  obtain ⟨w, es, ss⟩ := S
  have h0 := fun s => l55 w es ss P hl hP s P.length 0 (by omega)
  rw [ofNat_0] at h0
  rw [lim_call tbl_55]
  obtain ⟨N, O, p, q⟩ := s
  (try simp only [go_sem, ↓reduceIte, Nat.reduceAdd, Nat.reduceEqDiff, Nat.reduceLT, Nat.reduceLeDiff, Nat.reduceBEq, Int.reduceEq, Int.reduceLT, Int.reduceLE]); (repeat ((first | simp only [h0] | (rw [lt_yes]; rotate_left; (first | omega | (simp [lenOf, app]; omega) | (simp only [lenOf]; omega))) | (rw [lt_no]; rotate_left; (first | omega | (simp [lenOf, app]; omega) | (simp only [lenOf]; omega))) | (rw [idxA_at]; rotate_left; (first | omega | (simp [lenOf, app]; omega) | (simp only [lenOf]; omega))) | (rw [wr_up]; rotate_left; (first | omega | (simp [lenOf, app]; omega) | (simp only [lenOf]; omega))) | ((first | rw [drop_cI] | rw [drop_cE] | rw [drop_cS] | rw [drop_cP] | rw [drop_cR]); rotate_left; assumption)); try simp only [go_sem, ↓reduceIte, Nat.reduceAdd, Nat.reduceEqDiff, Nat.reduceLT, Nat.reduceLeDiff, Nat.reduceBEq, Int.reduceEq, Int.reduceLT, Int.reduceLE]))
theorem l56 (P : List Pay) (hl : P.length < 1000000) (N : Nat) (O : List AObj) (p : Nat) (q : Nat → Nat) : ∀ (k i : Nat) (acc : List Pay), i + k = P.length → acc.length = i →
   lim tbl (.loop a56_l0 31 ⟨[0, 3, 4], [3], []⟩ [sl cP P, ownSl cP p acc, i64 (Int.ofNat i)]) ⟨N, O, roomP p (lenOf acc), roomC p q (lenOf acc)⟩
   = some (.exit 0, [ownSl cP p (app acc (P.drop i))], ⟨N, O, roomP p (lenOf (app acc (P.drop i))), roomC p q (lenOf (app acc (P.drop i)))⟩) := by
  intro k
  induction k with
  | zero =>
    intro i acc hi ha
    rw [List.drop_eq_nil_of_le (by omega), app_nil, lim_loop]
    (try simp only [go_sem, ↓reduceIte, Nat.reduceAdd, Nat.reduceEqDiff, Nat.reduceLT, Nat.reduceLeDiff, Nat.reduceBEq, Int.reduceEq, Int.reduceLT, Int.reduceLE]); (repeat ((first | (rw [lt_yes]; rotate_left; (first | omega | (simp [lenOf, app]; omega) | (simp only [lenOf]; omega))) | (rw [lt_no]; rotate_left; (first | omega | (simp [lenOf, app]; omega) | (simp only [lenOf]; omega))) | (rw [idxA_at]; rotate_left; (first | omega | (simp [lenOf, app]; omega) | (simp only [lenOf]; omega))) | (rw [wr_up]; rotate_left; (first | omega | (simp [lenOf, app]; omega) | (simp only [lenOf]; omega))) | ((first | rw [drop_cI] | rw [drop_cE] | rw [drop_cS] | rw [drop_cP] | rw [drop_cR]); rotate_left; assumption)); try simp only [go_sem, ↓reduceIte, Nat.reduceAdd, Nat.reduceEqDiff, Nat.reduceLT, Nat.reduceLeDiff, Nat.reduceBEq, Int.reduceEq, Int.reduceLT, Int.reduceLE]))
  | succ k ih =>
    intro i acc hi ha
    have hlt : i < P.length := by omega
    obtain ⟨e, he, hd⟩ := getElem_drop hlt
    obtain ⟨f, t, n⟩ := e
    rw [hd, app_assoc]
    have hx := append_own (f := cP) (sz := 3) (fun _ => rfl) 24 p q N O acc ⟨f, t, n⟩ [i64 f, i64 t, i64 n] rfl .full (by omega) (by omega)
    have h' := ih (i + 1) (app acc [⟨f, t, n⟩]) (by omega) (by simp [app]; omega)
    rw [lim_loop]
    generalize hR : some (_, _, _) = R at h' ⊢
    (try simp only [go_sem, ↓reduceIte, Nat.reduceAdd, Nat.reduceEqDiff, Nat.reduceLT, Nat.reduceLeDiff, Nat.reduceBEq, Int.reduceEq, Int.reduceLT, Int.reduceLE]); (repeat ((first | rw [hx] | (rw [lt_yes]; rotate_left; (first | omega | (simp [lenOf, app]; omega) | (simp only [lenOf]; omega))) | (rw [lt_no]; rotate_left; (first | omega | (simp [lenOf, app]; omega) | (simp only [lenOf]; omega))) | (rw [idxA_at]; rotate_left; (first | omega | (simp [lenOf, app]; omega) | (simp only [lenOf]; omega))) | (rw [wr_up]; rotate_left; (first | omega | (simp [lenOf, app]; omega) | (simp only [lenOf]; omega))) | ((first | rw [drop_cI] | rw [drop_cE] | rw [drop_cS] | rw [drop_cP] | rw [drop_cR]); rotate_left; assumption)); try simp only [go_sem, ↓reduceIte, Nat.reduceAdd, Nat.reduceEqDiff, Nat.reduceLT, Nat.reduceLeDiff, Nat.reduceBEq, Int.reduceEq, Int.reduceLT, Int.reduceLE]))
    exact h'
theorem l68 (P : List Pay) (hl : P.length < 1000000) (N : Nat) (O : List AObj) (p : Nat) (q : Nat → Nat) : ∀ (k i : Nat) (acc : List Pay), i + k = P.length → acc.length = i →
   lim tbl (.loop a68_l0 31 ⟨[0, 3, 4], [3], []⟩ [sl cP P, ownSl cP p acc, i64 (Int.ofNat i)]) ⟨N, O, roomP p (lenOf acc), roomC p q (lenOf acc)⟩
   = some (.exit 0, [ownSl cP p (app acc (P.drop i))], ⟨N, O, roomP p (lenOf (app acc (P.drop i))), roomC p q (lenOf (app acc (P.drop i)))⟩) := by
  intro k
  induction k with
  | zero =>
    intro i acc hi ha
    rw [List.drop_eq_nil_of_le (by omega), app_nil, lim_loop]
    (try simp only [go_sem, ↓reduceIte, Nat.reduceAdd, Nat.reduceEqDiff, Nat.reduceLT, Nat.reduceLeDiff, Nat.reduceBEq, Int.reduceEq, Int.reduceLT, Int.reduceLE]); (repeat ((first | (rw [lt_yes]; rotate_left; (first | omega | (simp [lenOf, app]; omega) | (simp only [lenOf]; omega))) | (rw [lt_no]; rotate_left; (first | omega | (simp [lenOf, app]; omega) | (simp only [lenOf]; omega))) | (rw [idxA_at]; rotate_left; (first | omega | (simp [lenOf, app]; omega) | (simp only [lenOf]; omega))) | (rw [wr_up]; rotate_left; (first | omega | (simp [lenOf, app]; omega) | (simp only [lenOf]; omega))) | ((first | rw [drop_cI] | rw [drop_cE] | rw [drop_cS] | rw [drop_cP] | rw [drop_cR]); rotate_left; assumption)); try simp only [go_sem, ↓reduceIte, Nat.reduceAdd, Nat.reduceEqDiff, Nat.reduceLT, Nat.reduceLeDiff, Nat.reduceBEq, Int.reduceEq, Int.reduceLT, Int.reduceLE]))
  | succ k ih =>
    intro i acc hi ha
    have hlt : i < P.length := by omega
    obtain ⟨e, he, hd⟩ := getElem_drop hlt
    obtain ⟨f, t, n⟩ := e
    rw [hd, app_assoc]
    have hx := append_own (f := cP) (sz := 3) (fun _ => rfl) 24 p q N O acc ⟨f, t, n⟩ [i64 f, i64 t, i64 n] rfl .full (by omega) (by omega)
    have h' := ih (i + 1) (app acc [⟨f, t, n⟩]) (by omega) (by simp [app]; omega)
    rw [lim_loop]
    generalize hR : some (_, _, _) = R at h' ⊢
    (try simp only [go_sem, ↓reduceIte, Nat.reduceAdd, Nat.reduceEqDiff, Nat.reduceLT, Nat.reduceLeDiff, Nat.reduceBEq, Int.reduceEq, Int.reduceLT, Int.reduceLE]); (repeat ((first | rw [hx] | (rw [lt_yes]; rotate_left; (first | omega | (simp [lenOf, app]; omega) | (simp only [lenOf]; omega))) | (rw [lt_no]; rotate_left; (first | omega | (simp [lenOf, app]; omega) | (simp only [lenOf]; omega))) | (rw [idxA_at]; rotate_left; (first | omega | (simp [lenOf, app]; omega) | (simp only [lenOf]; omega))) | (rw [wr_up]; rotate_left; (first | omega | (simp [lenOf, app]; omega) | (simp only [lenOf]; omega))) | ((first | rw [drop_cI] | rw [drop_cE] | rw [drop_cS] | rw [drop_cP] | rw [drop_cR]); rotate_left; assumption)); try simp only [go_sem, ↓reduceIte, Nat.reduceAdd, Nat.reduceEqDiff, Nat.reduceLT, Nat.reduceLeDiff, Nat.reduceBEq, Int.reduceEq, Int.reduceLT, Int.reduceLE]))
    exact h'
theorem k68 (P : List Pay) (hl : P.length < 1000000) (s : St) : lim tbl (.call 68 [sl cP P]) s = some (.ret, [sl cP P], s) := by
  rw [lim_call tbl_68]; obtain ⟨N, O, p, q⟩ := s
  have h0 := l68 P hl N O p q P.length 0 [] (by omega) rfl
  rw [List.drop_zero, nil_app, ownSl_nil, show lenOf ([] : List Pay) = 0 from rfl, roomP_0, roomC_0, ofNat_0] at h0
  (try simp only [go_sem, ↓reduceIte, Nat.reduceAdd, Nat.reduceEqDiff, Nat.reduceLT, Nat.reduceLeDiff, Nat.reduceBEq, Int.reduceEq, Int.reduceLT, Int.reduceLE]); (repeat ((first | rw [h0] | (rw [lt_yes]; rotate_left; (first | omega | (simp [lenOf, app]; omega) | (simp only [lenOf]; omega))) | (rw [lt_no]; rotate_left; (first | omega | (simp [lenOf, app]; omega) | (simp only [lenOf]; omega))) | (rw [idxA_at]; rotate_left; (first | omega | (simp [lenOf, app]; omega) | (simp only [lenOf]; omega))) | (rw [wr_up]; rotate_left; (first | omega | (simp [lenOf, app]; omega) | (simp only [lenOf]; omega))) | ((first | rw [drop_cI] | rw [drop_cE] | rw [drop_cS] | rw [drop_cP] | rw [drop_cR]); rotate_left; assumption)); try simp only [go_sem, ↓reduceIte, Nat.reduceAdd, Nat.reduceEqDiff, Nat.reduceLT, Nat.reduceLeDiff, Nat.reduceBEq, Int.reduceEq, Int.reduceLT, Int.reduceLE]))
/-- The first slate's answers are as close as the second one's. -/
structure CloserOk (X S : Slate) : Prop where
  ex : askedErr X = 0
  es : askedErr S = 0
  xl : X.es.length < 1000000 ∧ X.ss.length < 1000000
  sl : S.es.length < 1000000 ∧ S.ss.length < 1000000
  bl : (boundsL X).length < 1000000 ∧ (boundsL X).length = (boundsL S).length
  bo : ∀ (i : Nat) (x y : Rng), (boundsL X)[i]? = some x → (boundsL S)[i]? = some y → y.lo ≤ x.lo ∧ x.hi ≤ y.hi
  ow : ∀ (i : Nat) (x y : Int), ((boundsL S).map owesF)[i]? = some x → ((boundsL X).map owesF)[i]? = some y → x = 3 ∨ x = y
  fw : (fewestP S).1 ≤ (fewestP X).1 ∧ (fewestP X).2 ≤ (fewestP S).2
end Go.Proofs.Ytlhfeiacigmliaa

/- The wash-house's soap: what the functions compute: whether payments settle all, by both packages. -/
namespace Go.Proofs.Ytlhfeiacigmliaa
open Go
set_option maxRecDepth 10000

theorem l55b (w : Int) (es : List Ent) (ss : List Say) (P : List Pay) (hl : P.length < 1000000) (s : St) : ∀ (k i : Nat), i + k = P.length → ∀ R,
   R = (if allB (payOk w) (P.drop i) then some (.exit 0, [], s) else some (.ret, [.bool false], s)) →
   lim tbl (.loop a55_l0 34 ⟨[1, 2, 5], [], [4]⟩ [sl cP P, .vref [i64 w, sl cE es, sl cS ss], i64 (Int.ofNat i)]) s = R := by
  intro k
  induction k with
  | zero =>
    intro i hi R hR
    rw [List.drop_eq_nil_of_le (by omega)] at hR
    simp only [allB, List.all_nil, if_true] at hR
    rw [lim_loop]
    obtain ⟨N, O, p, q⟩ := s
    (try simp only [go_sem, ↓reduceIte, Nat.reduceAdd, Nat.reduceEqDiff, Nat.reduceLT, Nat.reduceLeDiff, Nat.reduceBEq, Int.reduceEq, Int.reduceLT, Int.reduceLE]); (repeat ((first | (rw [lt_yes]; rotate_left; (first | omega | (simp [lenOf, app]; omega) | (simp only [lenOf]; omega))) | (rw [lt_no]; rotate_left; (first | omega | (simp [lenOf, app]; omega) | (simp only [lenOf]; omega))) | (rw [idxA_at]; rotate_left; (first | omega | (simp [lenOf, app]; omega) | (simp only [lenOf]; omega))) | (rw [wr_up]; rotate_left; (first | omega | (simp [lenOf, app]; omega) | (simp only [lenOf]; omega))) | ((first | rw [drop_cI] | rw [drop_cE] | rw [drop_cS] | rw [drop_cP] | rw [drop_cR]); rotate_left; assumption)); try simp only [go_sem, ↓reduceIte, Nat.reduceAdd, Nat.reduceEqDiff, Nat.reduceLT, Nat.reduceLeDiff, Nat.reduceBEq, Int.reduceEq, Int.reduceLT, Int.reduceLE]))
    exact hR.symm
  | succ k ih =>
    intro i hi R hR
    have hlt : i < P.length := by omega
    obtain ⟨x, hx, hd⟩ := getElem_drop hlt
    have h' := ih (i + 1) (by omega) R
    obtain ⟨f, t, n⟩ := x
    have hA : allB (payOk w) (⟨f, t, n⟩ :: P.drop (i + 1)) = (pair w f t && within n 1 240 && allB (payOk w) (P.drop (i + 1))) := by simp [allB, payOk]
    rw [hd, hA] at hR
    rw [lim_loop]
    obtain ⟨N, O, p, q⟩ := s
    cases o1 : pair w f t with
    | false =>
      rw [o1] at hR
      simp only [Bool.false_and, Bool.false_eq_true, if_false] at hR
      (try simp only [go_sem, ↓reduceIte, Nat.reduceAdd, Nat.reduceEqDiff, Nat.reduceLT, Nat.reduceLeDiff, Nat.reduceBEq, Int.reduceEq, Int.reduceLT, Int.reduceLE]); (repeat ((first | rw [o1] | (rw [lt_yes]; rotate_left; (first | omega | (simp [lenOf, app]; omega) | (simp only [lenOf]; omega))) | (rw [lt_no]; rotate_left; (first | omega | (simp [lenOf, app]; omega) | (simp only [lenOf]; omega))) | (rw [idxA_at]; rotate_left; (first | omega | (simp [lenOf, app]; omega) | (simp only [lenOf]; omega))) | (rw [wr_up]; rotate_left; (first | omega | (simp [lenOf, app]; omega) | (simp only [lenOf]; omega))) | ((first | rw [drop_cI] | rw [drop_cE] | rw [drop_cS] | rw [drop_cP] | rw [drop_cR]); rotate_left; assumption)); try simp only [go_sem, ↓reduceIte, Nat.reduceAdd, Nat.reduceEqDiff, Nat.reduceLT, Nat.reduceLeDiff, Nat.reduceBEq, Int.reduceEq, Int.reduceLT, Int.reduceLE]))
      exact hR.symm
    | true =>
      cases o2 : within n 1 240 with
      | false =>
        rw [o1, o2] at hR
        simp only [Bool.and_false, Bool.false_and, Bool.false_eq_true, if_false] at hR
        (try simp only [go_sem, ↓reduceIte, Nat.reduceAdd, Nat.reduceEqDiff, Nat.reduceLT, Nat.reduceLeDiff, Nat.reduceBEq, Int.reduceEq, Int.reduceLT, Int.reduceLE]); (repeat ((first | rw [o1] | rw [o2] | (rw [lt_yes]; rotate_left; (first | omega | (simp [lenOf, app]; omega) | (simp only [lenOf]; omega))) | (rw [lt_no]; rotate_left; (first | omega | (simp [lenOf, app]; omega) | (simp only [lenOf]; omega))) | (rw [idxA_at]; rotate_left; (first | omega | (simp [lenOf, app]; omega) | (simp only [lenOf]; omega))) | (rw [wr_up]; rotate_left; (first | omega | (simp [lenOf, app]; omega) | (simp only [lenOf]; omega))) | ((first | rw [drop_cI] | rw [drop_cE] | rw [drop_cS] | rw [drop_cP] | rw [drop_cR]); rotate_left; assumption)); try simp only [go_sem, ↓reduceIte, Nat.reduceAdd, Nat.reduceEqDiff, Nat.reduceLT, Nat.reduceLeDiff, Nat.reduceBEq, Int.reduceEq, Int.reduceLT, Int.reduceLE]))
        exact hR.symm
      | true =>
        rw [o1, o2] at hR
        simp only [Bool.true_and] at hR
        (try simp only [go_sem, ↓reduceIte, Nat.reduceAdd, Nat.reduceEqDiff, Nat.reduceLT, Nat.reduceLeDiff, Nat.reduceBEq, Int.reduceEq, Int.reduceLT, Int.reduceLE]); (repeat ((first | rw [o1] | rw [o2] | (rw [lt_yes]; rotate_left; (first | omega | (simp [lenOf, app]; omega) | (simp only [lenOf]; omega))) | (rw [lt_no]; rotate_left; (first | omega | (simp [lenOf, app]; omega) | (simp only [lenOf]; omega))) | (rw [idxA_at]; rotate_left; (first | omega | (simp [lenOf, app]; omega) | (simp only [lenOf]; omega))) | (rw [wr_up]; rotate_left; (first | omega | (simp [lenOf, app]; omega) | (simp only [lenOf]; omega))) | ((first | rw [drop_cI] | rw [drop_cE] | rw [drop_cS] | rw [drop_cP] | rw [drop_cR]); rotate_left; assumption)); try simp only [go_sem, ↓reduceIte, Nat.reduceAdd, Nat.reduceEqDiff, Nat.reduceLT, Nat.reduceLeDiff, Nat.reduceBEq, Int.reduceEq, Int.reduceLT, Int.reduceLE]))
        exact h' hR
/-- What is owed after payments. -/
def setUp (w : Int) : Int → List Pay → Int
  | n, [] => n
  | n, x :: l => setUp w (if x.to = w then wr .i64 (Int.sub (if x.fr = w then wr .i64 (Int.add n x.oz) else n) x.oz) else (if x.fr = w then wr .i64 (Int.add n x.oz) else n)) l
def zeroAt (es : List Ent) (L : List Int) (P : List Pay) (j : Nat) : Bool := decide (setUp (Int.ofNat j) (owedUp 0 (Int.ofNat j) es L) P = 0)
/-- Whether payments settle all, by the document. -/
def settlesR (S : Slate) (L : List Int) (P : List Pay) : Bool := (List.range' 0 S.women.toNat).all (zeroAt S.es L P)
def OkFP (P : List Pay) : Prop := ∀ x ∈ P, ∃ f t : Nat, f < 6 ∧ t < 6 ∧ x.fr = Int.ofNat f ∧ x.to = Int.ofNat t
theorem l67 (P : List Pay) (hP : P.length < 1000000) (hF : OkFP P) (N : Nat) (O : List AObj) (p : Nat) (q : Nat → Nat) : ∀ (k i : Nat) (a : Nat → Int) (M : Nat) (Q : List AObj), i + k = P.length → Under N O (.cells (c6 a)) M Q →
   ∃ M' Q', Under N O (.cells (c6 fun j => setUp (Int.ofNat j) (a j) (P.drop i))) M' Q' ∧
   lim tbl (.loop a67_l0 60 ⟨[9, 34, 35, 36], [9], []⟩ [.ptr N 0, sl cP P, i64 (Int.ofNat (lenOf P)), i64 (Int.ofNat i)]) ⟨M, Q, p, q⟩ = some (.exit 0, [.ptr N 0], ⟨M', Q', p, q⟩) := by
  intro k
  induction k with
  | zero =>
    intro i a M Q hi hU
    refine ⟨M, Q, ?_, ?_⟩
    · rw [List.drop_eq_nil_of_le (by omega)]; exact hU
    · rw [lim_loop]
      (try simp only [go_sem, ↓reduceIte, Nat.reduceAdd, Nat.reduceEqDiff, Nat.reduceLT, Nat.reduceLeDiff, Nat.reduceBEq, Int.reduceEq, Int.reduceLT, Int.reduceLE]); (repeat ((first | (rw [lt_yes]; rotate_left; (first | omega | (simp [lenOf, app]; omega) | (simp only [lenOf]; omega))) | (rw [lt_no]; rotate_left; (first | omega | (simp [lenOf, app]; omega) | (simp only [lenOf]; omega))) | (rw [idxA_at]; rotate_left; (first | omega | (simp [lenOf, app]; omega) | (simp only [lenOf]; omega))) | (rw [wr_up]; rotate_left; (first | omega | (simp [lenOf, app]; omega) | (simp only [lenOf]; omega))) | ((first | rw [drop_cI] | rw [drop_cE] | rw [drop_cS] | rw [drop_cP] | rw [drop_cR]); rotate_left; assumption)); try simp only [go_sem, ↓reduceIte, Nat.reduceAdd, Nat.reduceEqDiff, Nat.reduceLT, Nat.reduceLeDiff, Nat.reduceBEq, Int.reduceEq, Int.reduceLT, Int.reduceLE]))
  | succ k ih =>
    intro i a M Q hi hU
    have hlt : i < P.length := by omega
    obtain ⟨e, he, hd⟩ := getElem_drop hlt
    obtain ⟨f, t, hf, ht, h1, h2⟩ := hF e (List.mem_of_getElem? he)
    obtain ⟨fr, to, x⟩ := e
    simp only at h1 h2
    subst h1 h2
    rw [hd]
    have g1 := hU.get1 (.cells [i64 (Int.ofNat f), i64 (Int.ofNat t), i64 x]) p q
    obtain ⟨Q1, hU1, _, s1⟩ := hU.set (.cells (c6 (put a f (wr .i64 (Int.add (a f) x)))))
    have g2 := hU1.get1 (.cells [i64 (Int.ofNat f), i64 (Int.ofNat t), i64 x]) p q
    obtain ⟨Q2, hU2, _, s2⟩ := hU1.set (.cells (c6 (put (put a f (wr .i64 (Int.add (a f) x))) t (wr .i64 (Int.sub (put a f (wr .i64 (Int.add (a f) x)) t) x)))))
    obtain ⟨M', Q', hU', h'⟩ := ih (i + 1) _ _ _ (by omega) (hU2.push (.cells [i64 (Int.ofNat f), i64 (Int.ofNat t), i64 x]))
    refine ⟨M', Q', ?_, ?_⟩
    · have : (fun j => setUp (Int.ofNat j) (put (put a f (wr .i64 (Int.add (a f) x))) t (wr .i64 (Int.sub (put a f (wr .i64 (Int.add (a f) x)) t) x)) j) (P.drop (i + 1)))
        = (fun j => setUp (Int.ofNat j) (a j) (⟨Int.ofNat f, Int.ofNat t, x⟩ :: P.drop (i + 1))) := by
        funext j
        rw [setUp]
        simp only [put, Int.ofNat.injEq]
        congr 1
        by_cases hj1 : j = t
        · subst hj1
          by_cases hj2 : j = f
          · subst hj2; simp
          · simp [hj2, Ne.symm hj2]
        · by_cases hj2 : j = f
          · subst hj2; simp [hj1, Ne.symm hj1]
          · simp [hj1, hj2, Ne.symm hj1, Ne.symm hj2]
      rw [← this]; exact hU'
    · rw [lim_loop]
      generalize hR : some (_, _, _) = R at h' ⊢
      have n1 := nthO_c6 a hf
      have n2 := nthO_c6 (put a f (wr .i64 (Int.add (a f) x))) ht
      have p1 := fun s b => storeP_c6_1 s b a (wr .i64 (Int.add (a f) x)) hf
      have p2 := fun s b => storeP_c6_1 s b (put a f (wr .i64 (Int.add (a f) x))) (wr .i64 (Int.sub (put a f (wr .i64 (Int.add (a f) x)) t) x)) ht
      (try simp only [go_sem, ↓reduceIte, Nat.reduceAdd, Nat.reduceEqDiff, Nat.reduceLT, Nat.reduceLeDiff, Nat.reduceBEq, Int.reduceEq, Int.reduceLT, Int.reduceLE]); (repeat ((first | rw [g1] | rw [n1] | rw [p1] | rw [s1] | rw [g2] | rw [n2] | rw [p2] | rw [s2] | (rw [lt_yes]; rotate_left; (first | omega | (simp [lenOf, app]; omega) | (simp only [lenOf]; omega))) | (rw [lt_no]; rotate_left; (first | omega | (simp [lenOf, app]; omega) | (simp only [lenOf]; omega))) | (rw [idxA_at]; rotate_left; (first | omega | (simp [lenOf, app]; omega) | (simp only [lenOf]; omega))) | (rw [wr_up]; rotate_left; (first | omega | (simp [lenOf, app]; omega) | (simp only [lenOf]; omega))) | ((first | rw [drop_cI] | rw [drop_cE] | rw [drop_cS] | rw [drop_cP] | rw [drop_cR]); rotate_left; assumption)); try simp only [go_sem, ↓reduceIte, Nat.reduceAdd, Nat.reduceEqDiff, Nat.reduceLT, Nat.reduceLeDiff, Nat.reduceBEq, Int.reduceEq, Int.reduceLT, Int.reduceLE]))
      exact h'
def proveS (S : Slate) (L : List Int) (P : List Pay) (many : Int) : Bool :=
  decide (playErr S L = 0) && (decide (Int.ofNat (lenOf P) ≤ many) && (allB (payOk S.women) P && eq6 (fun j => setUp (Int.ofNat j) (playOw S L j) P) (fun _ => 0)))
theorem pay_women {w : Int} (h6 : w ≤ 6) {P : List Pay} (h : allB (payOk w) P = true) (hw0 : 0 ≤ w) : OkFP P := by
  intro x hx
  simp only [allB, List.all_eq_true] at h
  have := h x hx
  have hwr : wr .i64 (w - 1) = w - 1 := wr_in (by omega) (by omega)
  simp only [payOk, pair, woman, hwr, Bool.and_eq_true, within_iff] at this
  obtain ⟨⟨⟨a1, a2⟩, ⟨b1, b2⟩, _⟩, _⟩ := this
  exact ⟨x.fr.toNat, x.to.toNat, by omega, by omega, by simp; omega, by simp; omega⟩
theorem eq6_z (a : Nat → Int) : eqCells [0, 0, 0, 0, 0, 0] (c6 a) [i64 0, i64 0, i64 0, i64 0, i64 0, i64 0] = some (eq6 a fun _ => 0) := eqCells_c6 a fun _ => 0
theorem k67 (S : Slate) (L : List Int) (P : List Pay) (many : Int) (hP : P.length < 1000000) (s : St) : lim tbl (.call 67 [vSl S, sl cI L, sl cP P, i64 many]) s = some (.ret, [.bool (proveS S L P many)], s) := by
  have h79 := fun s => k79 S L good_of_check s
  rw [lim_call tbl_67]
  obtain ⟨N, O, p, q⟩ := s
  generalize hR : proveS S L P many = R
  unfold proveS at hR
  by_cases he : playErr S L = 0
  · have hc := play_check he
    have hG := good_of_check hc
    have hw0 := hG.w0
    have hw6 := hG.w6
    rw [he] at h79
    simp only [he, decide_true, Bool.true_and] at hR
    generalize playOw S L = a at h79 hR
    obtain ⟨w, es, ss⟩ := S
    simp only at hR hw0 hw6
    by_cases hm : Int.ofNat (lenOf P) ≤ many
    · have hm' : ¬ many < Int.ofNat (lenOf P) := by omega
      simp only [hm, decide_true, Bool.true_and] at hR
      have hA := fun s => k104 (P := payOk w) (f := .func 105) (fa := [vSl ⟨w, es, ss⟩]) (fb := []) (by (try simp only [go_sem, ↓reduceIte, Nat.reduceAdd, Nat.reduceEqDiff, Nat.reduceLT, Nat.reduceLeDiff, Nat.reduceBEq, Int.reduceEq, Int.reduceLT, Int.reduceLE])) (by (try simp only [go_sem, ↓reduceIte, Nat.reduceAdd, Nat.reduceEqDiff, Nat.reduceLT, Nat.reduceLeDiff, Nat.reduceBEq, Int.reduceEq, Int.reduceLT, Int.reduceLE])) s P hP (fun e _ => by obtain ⟨a, b, n⟩ := e; (try simp only [go_sem, ↓reduceIte, Nat.reduceAdd, Nat.reduceEqDiff, Nat.reduceLT, Nat.reduceLeDiff, Nat.reduceBEq, Int.reduceEq, Int.reduceLT, Int.reduceLE]))
      cases hb : allB (payOk w) P with
      | false =>
        rw [hb] at hA hR
        simp only [Bool.false_and] at hR
        subst hR
        (try simp only [go_sem, ↓reduceIte, Nat.reduceAdd, Nat.reduceEqDiff, Nat.reduceLT, Nat.reduceLeDiff, Nat.reduceBEq, Int.reduceEq, Int.reduceLT, Int.reduceLE]); (repeat ((first | simp only [h79] | rw [lt_n hm'] | simp only [hA] | (rw [lt_yes]; rotate_left; (first | omega | (simp [lenOf, app]; omega) | (simp only [lenOf]; omega))) | (rw [lt_no]; rotate_left; (first | omega | (simp [lenOf, app]; omega) | (simp only [lenOf]; omega))) | (rw [idxA_at]; rotate_left; (first | omega | (simp [lenOf, app]; omega) | (simp only [lenOf]; omega))) | (rw [wr_up]; rotate_left; (first | omega | (simp [lenOf, app]; omega) | (simp only [lenOf]; omega))) | ((first | rw [drop_cI] | rw [drop_cE] | rw [drop_cS] | rw [drop_cP] | rw [drop_cR]); rotate_left; assumption)); try simp only [go_sem, ↓reduceIte, Nat.reduceAdd, Nat.reduceEqDiff, Nat.reduceLT, Nat.reduceLeDiff, Nat.reduceBEq, Int.reduceEq, Int.reduceLT, Int.reduceLE]))
      | true =>
        rw [hb] at hA hR
        simp only [Bool.true_and] at hR
        have hF := pay_women hw6 hb hw0
        obtain ⟨M, Q, hU, h0⟩ := l67 P hP hF N O p q P.length 0 a (na N 1) (.cells (c6 a) :: O) (by omega) (Under.init ..)
        rw [ofNat_0] at h0
        rw [List.drop_zero] at hU
        have g1 := hU.get p q
        have ho := hU.old p q
        have hz := eq6_z (fun j => setUp (Int.ofNat j) (a j) P)
        rw [hR] at hz
        generalize (fun j => setUp (Int.ofNat j) (a j) P) = b at g1 hz
        (try simp only [go_sem, ↓reduceIte, Nat.reduceAdd, Nat.reduceEqDiff, Nat.reduceLT, Nat.reduceLeDiff, Nat.reduceBEq, Int.reduceEq, Int.reduceLT, Int.reduceLE]); (repeat ((first | simp only [h79] | rw [lt_n hm'] | simp only [hA] | rw [h0] | rw [g1] | rw [hz] | rw [ho] | (rw [lt_yes]; rotate_left; (first | omega | (simp [lenOf, app]; omega) | (simp only [lenOf]; omega))) | (rw [lt_no]; rotate_left; (first | omega | (simp [lenOf, app]; omega) | (simp only [lenOf]; omega))) | (rw [idxA_at]; rotate_left; (first | omega | (simp [lenOf, app]; omega) | (simp only [lenOf]; omega))) | (rw [wr_up]; rotate_left; (first | omega | (simp [lenOf, app]; omega) | (simp only [lenOf]; omega))) | ((first | rw [drop_cI] | rw [drop_cE] | rw [drop_cS] | rw [drop_cP] | rw [drop_cR]); rotate_left; assumption)); try simp only [go_sem, ↓reduceIte, Nat.reduceAdd, Nat.reduceEqDiff, Nat.reduceLT, Nat.reduceLeDiff, Nat.reduceBEq, Int.reduceEq, Int.reduceLT, Int.reduceLE]))
    · have hm' : many < Int.ofNat (lenOf P) := by omega
      simp only [hm, decide_false, Bool.false_and] at hR
      subst hR
      (try simp only [go_sem, ↓reduceIte, Nat.reduceAdd, Nat.reduceEqDiff, Nat.reduceLT, Nat.reduceLeDiff, Nat.reduceBEq, Int.reduceEq, Int.reduceLT, Int.reduceLE]); (repeat ((first | simp only [h79] | rw [lt_y hm'] | (rw [lt_yes]; rotate_left; (first | omega | (simp [lenOf, app]; omega) | (simp only [lenOf]; omega))) | (rw [lt_no]; rotate_left; (first | omega | (simp [lenOf, app]; omega) | (simp only [lenOf]; omega))) | (rw [idxA_at]; rotate_left; (first | omega | (simp [lenOf, app]; omega) | (simp only [lenOf]; omega))) | (rw [wr_up]; rotate_left; (first | omega | (simp [lenOf, app]; omega) | (simp only [lenOf]; omega))) | ((first | rw [drop_cI] | rw [drop_cE] | rw [drop_cS] | rw [drop_cP] | rw [drop_cR]); rotate_left; assumption)); try simp only [go_sem, ↓reduceIte, Nat.reduceAdd, Nat.reduceEqDiff, Nat.reduceLT, Nat.reduceLeDiff, Nat.reduceBEq, Int.reduceEq, Int.reduceLT, Int.reduceLE]))
  · simp only [he, decide_false, Bool.false_and] at hR
    subst hR
    generalize playErr S L = e at h79 he
    generalize playOw S L = a at h79
    obtain ⟨w, es, ss⟩ := S
    (try simp only [go_sem, ↓reduceIte, Nat.reduceAdd, Nat.reduceEqDiff, Nat.reduceLT, Nat.reduceLeDiff, Nat.reduceBEq, Int.reduceEq, Int.reduceLT, Int.reduceLE]); (repeat ((first | simp only [h79] | rw [eq_n he] | (rw [lt_yes]; rotate_left; (first | omega | (simp [lenOf, app]; omega) | (simp only [lenOf]; omega))) | (rw [lt_no]; rotate_left; (first | omega | (simp [lenOf, app]; omega) | (simp only [lenOf]; omega))) | (rw [idxA_at]; rotate_left; (first | omega | (simp [lenOf, app]; omega) | (simp only [lenOf]; omega))) | (rw [wr_up]; rotate_left; (first | omega | (simp [lenOf, app]; omega) | (simp only [lenOf]; omega))) | ((first | rw [drop_cI] | rw [drop_cE] | rw [drop_cS] | rw [drop_cP] | rw [drop_cR]); rotate_left; assumption)); try simp only [go_sem, ↓reduceIte, Nat.reduceAdd, Nat.reduceEqDiff, Nat.reduceLT, Nat.reduceLeDiff, Nat.reduceBEq, Int.reduceEq, Int.reduceLT, Int.reduceLE]))
end Go.Proofs.Ytlhfeiacigmliaa

/- The plain law of payments that settle: by the program as by the document. -/
namespace Go.Proofs.Ytlhfeiacigmliaa
open Go
set_option maxRecDepth 100000

theorem payOk_iff {w : Int} (h0 : 0 ≤ w) (h6 : w ≤ 6) {x : Pay} : payOk w x = true ↔ PayW w.toNat x := by
  have hwr : wr .i64 (w - 1) = w - 1 := wr_in (by omega) (by omega)
  simp only [payOk, pair, woman, hwr, Bool.and_eq_true, within_iff, Bool.not_eq_true', decide_eq_false_iff_not]
  constructor
  · rintro ⟨⟨⟨a1, a2⟩, ⟨b1, b2⟩, b3⟩, c1, c2⟩
    exact ⟨x.fr.toNat, x.to.toNat, by omega, by omega, by omega, by simp; omega, by simp; omega, c1, c2⟩
  · rintro ⟨f, t, hf, ht, hne, e1, e2, c1, c2⟩
    rw [e1, e2]
    simp only [Int.ofNat_eq_natCast, Int.ofNat_inj]
    exact ⟨⟨⟨by omega, by omega⟩, ⟨by omega, by omega⟩, hne⟩, c1, c2⟩
theorem setUp_plain {w : Nat} : ∀ {P : List Pay} {n : Int} {j : Nat} (B : Int), (∀ x ∈ P, PayW w x) → -B ≤ n → n ≤ B → B + 240 * (P.length : Int) ≤ 1000000000 → setUp (Int.ofNat j) n P = n + paysD P j
  | [], n, j, B, _, _, _, _ => by simp [setUp, paysD]
  | x :: P, n, j, B, h, h1, h2, h3 => by
    obtain ⟨f, t, hf, ht, hne, e1, e2, c1, c2⟩ := h x (by simp)
    simp only [List.length_cons, Int.natCast_add, Int.natCast_one] at h3
    rw [setUp, paysD]
    unfold payD
    rw [e1, e2]
    simp only [Int.ofNat.injEq, fold_add, fold_sub]
    have go : ∀ m : Int, m = n + ((if f = j then x.oz else 0) - (if t = j then x.oz else 0)) → setUp (Int.ofNat j) m P = n + ((if f = j then x.oz else 0) - (if t = j then x.oz else 0) + paysD P j) := by
      intro m hm
      have hb : -(B + 240) ≤ m ∧ m ≤ B + 240 := by
        rw [hm]
        split <;> split <;> omega
      rw [setUp_plain (B + 240) (fun y hy => h y (by simp [hy])) hb.1 hb.2 (by omega), hm]; omega
    apply go
    by_cases hfj : f = j
    · have htj : ¬ t = j := by omega
      simp only [hfj, htj, if_true, if_false]
      rw [wr_in (by omega) (by omega)]; omega
    · by_cases htj : t = j
      · simp only [hfj, htj, if_true, if_false]
        rw [wr_in (by omega) (by omega)]; omega
      · simp only [hfj, htj, if_false]; omega
theorem paysD_far {w : Nat} : ∀ {P : List Pay}, (∀ x ∈ P, PayW w x) → ∀ j, w ≤ j → paysD P j = 0
  | [], _, _, _ => rfl
  | x :: P, h, j, hj => by
    obtain ⟨f, t, hf, ht, hne, e1, e2, _⟩ := h x (by simp)
    rw [paysD, paysD_far (fun y hy => h y (by simp [hy])) j hj]
    unfold payD
    rw [e1, e2]
    simp only [Int.ofNat_eq_natCast, Int.ofNat_inj]
    rw [if_neg (by omega), if_neg (by omega)]; rfl
theorem eq6_zero (b : Nat → Int) : eq6 b (fun _ => 0) = true ↔ ∀ j, j < 6 → b j = 0 := by
  constructor
  · intro h j hj; exact eq6_fun h j hj
  · intro h
    simp [eq6, h 0 (by omega), h 1 (by omega), h 2 (by omega), h 3 (by omega), h 4 (by omega), h 5 (by omega)]
section
variable {S : Slate} {L : List Int} (hc : checkSlate S = 0) (ha : areOz S.es L = true) {P : List Pay} (hP : P.length ≤ 1000) (hW : ∀ x ∈ P, PayW S.women.toNat x)
include hc ha hP hW
theorem settles_iff : settlesR S L P = true ↔ ∀ j, owV S.es L j + paysD P j = 0 := by
  have h240 := ow240 hc ha
  unfold settlesR
  rw [List.all_eq_true]
  have hz : ∀ j, zeroAt S.es L P j = decide (owV S.es L j + paysD P j = 0) := by
    intro j
    unfold zeroAt
    change decide (setUp (Int.ofNat j) (owV S.es L j) P = 0) = _
    have := h240 j
    rw [setUp_plain 240 hW this.1 this.2 (by omega)]
  constructor
  · intro h j
    rcases Nat.lt_or_ge j S.women.toNat with hj | hj
    · have := h j (by rw [List.mem_range'_1]; omega)
      rw [hz, decide_eq_true_eq] at this; exact this
    · rw [ow_far hc ha j hj, paysD_far hW j hj]; rfl
  · intro h j _
    rw [hz, decide_eq_true_eq]; exact h j
theorem prove_eq (many : Int) : proveS S L P many = (decide (Int.ofNat (lenOf P) ≤ many) && settlesR S L P) := by
  obtain ⟨hE, ho, _⟩ := play_facts hc ha
  have hG := good_of_check hc
  have h240 := ow240 hc ha
  have hA : allB (payOk S.women) P = true := by
    unfold allB
    rw [List.all_eq_true]
    exact fun x hx => (payOk_iff hG.w0 hG.w6).2 (hW x hx)
  unfold proveS
  rw [hE, ho, hA]
  simp only [decide_true, Bool.true_and]
  congr 1
  rw [Bool.eq_iff_iff, eq6_zero, settles_iff hc ha hP hW]
  have hs : ∀ j, setUp (Int.ofNat j) (owV S.es L j) P = owV S.es L j + paysD P j := fun j => by
    have := h240 j
    exact setUp_plain 240 hW this.1 this.2 (by omega)
  simp only [hs]
  constructor
  · intro h j
    rcases Nat.lt_or_ge j 6 with hj | hj
    · exact h j hj
    · have := hG.w6
      rw [ow_far hc ha j (by omega), paysD_far hW j (by omega)]; rfl
  · intro h j _; exact h j
end
theorem settle_len {S : Slate} {L : List Int} (hc : checkSlate S = 0) (ha : areOz S.es L = true) : (settleP S L).length ≤ 6 := by
  obtain ⟨_, _, _, p4⟩ := settle_facts hc ha
  have := (pc_facts _ (openN_lt (owV S.es L))).1
  omega
end Go.Proofs.Ytlhfeiacigmliaa

/- The wash-house's soap: what the functions compute: payments and sayings by words. -/
namespace Go.Proofs.Ytlhfeiacigmliaa
open Go
set_option maxRecDepth 10000

def cW (n : Nat) : List AVal := [.int .u16 (Int.ofNat n)]
@[go_sem] theorem norms_cW (l : List Nat) : norms (cellsOf cW l) = cellsOf cW l := norms_cells (fun _ => rfl) l
theorem drop_cW {l : List Nat} {i : Nat} {a : Nat} (h : l[i]? = some a) : List.drop (Nat.mul i 1) (cellsOf cW l) = .int .u16 (Int.ofNat a) :: cellsOf cW (l.drop (i + 1)) := drop_cells (f := cW) (fun _ => rfl) h
/-- One of some words, or 0. -/
def wordF (W : List Nat) (i : Nat) : Nat := W.getD (bmod i W.length) 0
theorem wordF_lt {W : List Nat} (h : ∀ w ∈ W, w < 65536) (i : Nat) : wordF W i < 65536 := by
  unfold wordF
  rw [List.getD_eq_getElem?_getD]
  cases hg : W[bmod i W.length]? with
  | none => simp
  | some a => exact h a (List.mem_of_getElem? hg)
theorem k103 (W : List Nat) (h : ∀ w ∈ W, w < 65536) (i : Nat) (s : St) : lim tbl (.call 103 [sl cW W, i64 (Int.ofNat i)]) s = some (.ret, [i64 (Int.ofNat (wordF W i))], s) := by
  rw [lim_call tbl_103]; obtain ⟨N, O, p, q⟩ := s
  have hw := wordF_lt h i
  have hwr : wr .i64 (Int.ofNat (wordF W i)) = Int.ofNat (wordF W i) := wr_nat (by omega)
  by_cases h0 : W.length = 0
  · have hW := List.length_eq_zero_iff.mp h0
    subst hW
    have hz : wordF [] i = 0 := by simp [wordF]
    rw [hz]
    have hl : Int.ofNat (lenOf ([] : List Nat)) = 0 := rfl
    (try simp only [go_sem, ↓reduceIte, Nat.reduceAdd, Nat.reduceEqDiff, Nat.reduceLT, Nat.reduceLeDiff, Nat.reduceBEq, Int.reduceEq, Int.reduceLT, Int.reduceLE]); (repeat ((first | rw [eq_y hl] | (rw [lt_yes]; rotate_left; (first | omega | (simp [lenOf, app]; omega) | (simp only [lenOf]; omega))) | (rw [lt_no]; rotate_left; (first | omega | (simp [lenOf, app]; omega) | (simp only [lenOf]; omega))) | (rw [idxA_at]; rotate_left; (first | omega | (simp [lenOf, app]; omega) | (simp only [lenOf]; omega))) | (rw [wr_up]; rotate_left; (first | omega | (simp [lenOf, app]; omega) | (simp only [lenOf]; omega))) | ((first | rw [drop_cI] | rw [drop_cE] | rw [drop_cS] | rw [drop_cP] | rw [drop_cR]); rotate_left; assumption)); try simp only [go_sem, ↓reduceIte, Nat.reduceAdd, Nat.reduceEqDiff, Nat.reduceLT, Nat.reduceLeDiff, Nat.reduceBEq, Int.reduceEq, Int.reduceLT, Int.reduceLE]))
  · have hne : ¬ Int.ofNat (lenOf W) = 0 := by unfold lenOf; simp; intro h; exact h0 (by rw [h]; rfl)
    have hm : bmod i W.length < W.length := Nat.mod_lt _ (by omega)
    have hr : remI (Int.ofNat i) (Int.ofNat (lenOf W)) = some (i64 (Int.ofNat (bmod i W.length))) := rem_at h0
    have hg : W[bmod i W.length]? = some (wordF W i) := by
      unfold wordF
      rw [List.getD_eq_getElem?_getD, List.getElem?_eq_getElem hm]; rfl
    have hd := drop_cW hg
    have hi : idxA (i64 (Int.ofNat (bmod i W.length))) (lenOf W) = some (bmod i W.length) := idxA_at hm
    (try simp only [go_sem, ↓reduceIte, Nat.reduceAdd, Nat.reduceEqDiff, Nat.reduceLT, Nat.reduceLeDiff, Nat.reduceBEq, Int.reduceEq, Int.reduceLT, Int.reduceLE]); (repeat ((first | rw [eq_n hne] | rw [hr] | rw [hi] | rw [hd] | rw [hwr] | (rw [lt_yes]; rotate_left; (first | omega | (simp [lenOf, app]; omega) | (simp only [lenOf]; omega))) | (rw [lt_no]; rotate_left; (first | omega | (simp [lenOf, app]; omega) | (simp only [lenOf]; omega))) | (rw [idxA_at]; rotate_left; (first | omega | (simp [lenOf, app]; omega) | (simp only [lenOf]; omega))) | (rw [wr_up]; rotate_left; (first | omega | (simp [lenOf, app]; omega) | (simp only [lenOf]; omega))) | ((first | rw [drop_cI] | rw [drop_cE] | rw [drop_cS] | rw [drop_cP] | rw [drop_cR]); rotate_left; assumption)); try simp only [go_sem, ↓reduceIte, Nat.reduceAdd, Nat.reduceEqDiff, Nat.reduceLT, Nat.reduceLeDiff, Nat.reduceBEq, Int.reduceEq, Int.reduceLT, Int.reduceLE]))
theorem rem6_at (a : Nat) : remI (Int.ofNat a) 6 = some (i64 (Int.ofNat (bmod a 6))) := rem_at (b := 6) (by omega)
theorem rem12_at (a : Nat) : remI (Int.ofNat a) 12 = some (i64 (Int.ofNat (bmod a 12))) := rem_at (b := 12) (by omega)
theorem quo8_at {a : Nat} (h : a < 65536) : quoI (Int.ofNat a) 8 = some (i64 (Int.ofNat (a / 8))) := quo_at (b := 8) (by omega) (by omega)
theorem quo64_at {a : Nat} (h : a < 65536) : quoI (Int.ofNat a) 64 = some (i64 (Int.ofNat (a / 64))) := quo_at (b := 64) (by omega) (by omega)
def payFrom (n w : Nat) : Nat := bmod w n
def payTo (n w : Nat) : Nat := bmod (bmod w n + 1 + bmod (w / 8) (n - 1)) n
def payOf (W : List Nat) (n i : Nat) : Pay := ⟨Int.ofNat (payFrom n (wordF W (i + 1))), Int.ofNat (payTo n (wordF W (i + 1))), Int.ofNat (1 + bmod (wordF W (i + 1) / 64) 12)⟩
theorem l70 (n : Nat) (hn1 : 1 < n) (hn : n ≤ 6) (es : List Ent) (ss : List Say) (W : List Nat) (h : ∀ w ∈ W, w < 65536) (N : Nat) (O : List AObj) (p : Nat) (q : Nat → Nat) : ∀ (k i : Nat) (acc : List Pay), i + k = bmod (wordF W 0) 6 → acc.length = i →
    lim tbl (.loop a70_l0 51 ⟨[1, 2, 5, 6], [5], []⟩ [sl cW W, .vref [i64 (Int.ofNat n), sl cE es, sl cS ss], ownSl cP p acc, i64 (Int.ofNat i)]) ⟨N, O, roomP p (lenOf acc), roomC p q (lenOf acc)⟩
      = some (.exit 0, [ownSl cP p (app acc ((List.range' i k).map (payOf W n)))], ⟨N, O, roomP p (lenOf (app acc ((List.range' i k).map (payOf W n)))), roomC p q (lenOf (app acc ((List.range' i k).map (payOf W n))))⟩) := by
  have h103 := fun i s => k103 W h i s
  have c0 : ∀ s, lim tbl (.call 103 [sl cW W, i64 0]) s = some (.ret, [i64 (Int.ofNat (wordF W 0))], s) := fun s => k103 W h 0 s
  have r0 := rem6_at (wordF W 0)
  have hb : bmod (wordF W 0) 6 < 6 := Nat.mod_lt _ (by omega)
  intro k
  induction k with
  | zero =>
    intro i acc hi ha
    have hlt : ¬ Int.ofNat i < Int.ofNat (bmod (wordF W 0) 6) := by simp only [Int.ofNat_eq_natCast]; omega
    rw [List.range'_zero, List.map_nil, app_nil, lim_loop]
    generalize bmod (wordF W 0) 6 = m at r0 hlt
    (try simp only [go_sem, ↓reduceIte, Nat.reduceAdd, Nat.reduceEqDiff, Nat.reduceLT, Nat.reduceLeDiff, Nat.reduceBEq, Int.reduceEq, Int.reduceLT, Int.reduceLE]); (repeat ((first | simp only [c0] | rw [r0] | rw [lt_n hlt] | (rw [lt_yes]; rotate_left; (first | omega | (simp [lenOf, app]; omega) | (simp only [lenOf]; omega))) | (rw [lt_no]; rotate_left; (first | omega | (simp [lenOf, app]; omega) | (simp only [lenOf]; omega))) | (rw [idxA_at]; rotate_left; (first | omega | (simp [lenOf, app]; omega) | (simp only [lenOf]; omega))) | (rw [wr_up]; rotate_left; (first | omega | (simp [lenOf, app]; omega) | (simp only [lenOf]; omega))) | ((first | rw [drop_cI] | rw [drop_cE] | rw [drop_cS] | rw [drop_cP] | rw [drop_cR]); rotate_left; assumption)); try simp only [go_sem, ↓reduceIte, Nat.reduceAdd, Nat.reduceEqDiff, Nat.reduceLT, Nat.reduceLeDiff, Nat.reduceBEq, Int.reduceEq, Int.reduceLT, Int.reduceLE]))
  | succ k ih =>
    intro i acc hi ha
    have hlt : Int.ofNat i < Int.ofNat (bmod (wordF W 0) 6) := by simp only [Int.ofNat_eq_natCast]; omega
    have hn2 : (1 : Int) < Int.ofNat n := by simp only [Int.ofNat_eq_natCast]; omega
    have h' := ih (i + 1) (app acc [payOf W n i]) (by omega) (by simp [app]; omega)
    rw [List.range'_succ, List.map_cons, app_assoc]
    have hx := append_own (f := cP) (sz := 3) (fun _ => rfl) 24 p q N O acc (payOf W n i) [i64 (Int.ofNat (payFrom n (wordF W (i + 1)))), i64 (Int.ofNat (payTo n (wordF W (i + 1)))), i64 (Int.ofNat (1 + bmod (wordF W (i + 1) / 64) 12))] rfl .full (by omega) (by omega)
    have c1 : ∀ s, lim tbl (.call 103 [sl cW W, i64 (Int.ofNat (i + 1))]) s = some (.ret, [i64 (Int.ofNat (wordF W (i + 1)))], s) := fun s => k103 W h (i + 1) s
    have hw := wordF_lt h (i + 1)
    generalize wordF W (i + 1) = w at hx c1 hw
    have e1 : remI (Int.ofNat w) (Int.ofNat n) = some (i64 (Int.ofNat (payFrom n w))) := rem_at (by omega)
    have e2 : wr .i64 (Int.add (Int.ofNat (payFrom n w)) 1) = Int.ofNat (payFrom n w + 1) := wr_up (by have : payFrom n w < n := Nat.mod_lt _ (by omega); omega)
    have e3 := quo8_at hw
    have e4 : wr .i64 (Int.sub (Int.ofNat n) 1) = Int.ofNat (n - 1) := by
      rw [fold_sub, wr_in (by simp; omega) (by simp; omega)]; simp; omega
    have e5 : remI (Int.ofNat (w / 8)) (Int.ofNat (n - 1)) = some (i64 (Int.ofNat (bmod (w / 8) (n - 1)))) := rem_at (by omega)
    have e6 : wr .i64 (Int.add (Int.ofNat (payFrom n w + 1)) (Int.ofNat (bmod (w / 8) (n - 1)))) = Int.ofNat (payFrom n w + 1 + bmod (w / 8) (n - 1)) := by
      have : payFrom n w < n := Nat.mod_lt _ (by omega)
      have : bmod (w / 8) (n - 1) < n - 1 := Nat.mod_lt _ (by omega)
      rw [fold_add, wr_in (by simp; omega) (by simp; omega)]; simp
    have e7 : remI (Int.ofNat (payFrom n w + 1 + bmod (w / 8) (n - 1))) (Int.ofNat n) = some (i64 (Int.ofNat (payTo n w))) := rem_at (by omega)
    have e8 := quo64_at hw
    have e9 := rem12_at (w / 64)
    have e10 : wr .i64 (Int.add 1 (Int.ofNat (bmod (w / 64) 12))) = Int.ofNat (1 + bmod (w / 64) 12) := by
      have : bmod (w / 64) 12 < 12 := Nat.mod_lt _ (by omega)
      rw [fold_add, wr_in (by simp; omega) (by simp; omega)]; simp
    rw [lim_loop]
    generalize bmod (wordF W 0) 6 = m at r0 hlt hi hb
    generalize hR : some (_, _, _) = R at h' ⊢
    (try simp only [go_sem, ↓reduceIte, Nat.reduceAdd, Nat.reduceEqDiff, Nat.reduceLT, Nat.reduceLeDiff, Nat.reduceBEq, Int.reduceEq, Int.reduceLT, Int.reduceLE]); (repeat ((first | simp only [c0] | rw [r0] | rw [lt_y hlt] | rw [lt_y hn2] | simp only [c1] | rw [e1] | rw [e2] | rw [e3] | rw [e4] | rw [e5] | rw [e6] | rw [e7] | rw [e8] | rw [e9] | rw [e10] | rw [hx] | (rw [lt_yes]; rotate_left; (first | omega | (simp [lenOf, app]; omega) | (simp only [lenOf]; omega))) | (rw [lt_no]; rotate_left; (first | omega | (simp [lenOf, app]; omega) | (simp only [lenOf]; omega))) | (rw [idxA_at]; rotate_left; (first | omega | (simp [lenOf, app]; omega) | (simp only [lenOf]; omega))) | (rw [wr_up]; rotate_left; (first | omega | (simp [lenOf, app]; omega) | (simp only [lenOf]; omega))) | ((first | rw [drop_cI] | rw [drop_cE] | rw [drop_cS] | rw [drop_cP] | rw [drop_cR]); rotate_left; assumption)); try simp only [go_sem, ↓reduceIte, Nat.reduceAdd, Nat.reduceEqDiff, Nat.reduceLT, Nat.reduceLeDiff, Nat.reduceBEq, Int.reduceEq, Int.reduceLT, Int.reduceLE]))
    exact h'
def paidL (W : List Nat) (n : Nat) : List Pay := if 1 < n then (List.range' 0 (bmod (wordF W 0) 6)).map (payOf W n) else []
theorem paidL_ok {W : List Nat} {n : Nat} : (paidL W n).length ≤ 5 ∧ ∀ x ∈ paidL W n, ∃ f t : Nat, f < n ∧ t < n ∧ f ≠ t ∧ x.fr = Int.ofNat f ∧ x.to = Int.ofNat t ∧ 1 ≤ x.oz ∧ x.oz ≤ 240 := by
  unfold paidL
  by_cases hn : 1 < n
  · rw [if_pos hn]
    have hb : bmod (wordF W 0) 6 < 6 := Nat.mod_lt _ (by omega)
    refine ⟨by simp; omega, fun x hx => ?_⟩
    rw [List.mem_map] at hx
    obtain ⟨i, _, rfl⟩ := hx
    unfold payOf
    generalize wordF W (i + 1) = w
    have h1 : payFrom n w < n := Nat.mod_lt _ (by omega)
    have h2 : payTo n w < n := Nat.mod_lt _ (by omega)
    refine ⟨payFrom n w, payTo n w, h1, h2, ?_, rfl, rfl, ?_, ?_⟩
    · have h3 : bmod (w / 8) (n - 1) < n - 1 := Nat.mod_lt _ (by omega)
      have h4 : payTo n w = if payFrom n w + 1 + bmod (w / 8) (n - 1) < n then payFrom n w + 1 + bmod (w / 8) (n - 1) else payFrom n w + 1 + bmod (w / 8) (n - 1) - n := by
        unfold payTo
        rw [show bmod w n = payFrom n w from rfl]
        generalize payFrom n w = a at h1 ⊢
        generalize bmod (w / 8) (n - 1) = b at h3 ⊢
        unfold bmod
        split
        · rename_i h; exact Nat.mod_eq_of_lt h
        · rename_i h; rw [Nat.mod_eq_sub_mod (by omega), Nat.mod_eq_of_lt (by omega)]
      rw [h4]; split <;> omega
    · have : bmod (w / 64) 12 < 12 := Nat.mod_lt _ (by omega)
      simp only [Int.ofNat_eq_natCast]; omega
    · have : bmod (w / 64) 12 < 12 := Nat.mod_lt _ (by omega)
      simp only [Int.ofNat_eq_natCast]; omega
  · rw [if_neg hn]; simp
theorem k70 (n : Nat) (hn : n ≤ 6) (es : List Ent) (ss : List Say) (W : List Nat) (h : ∀ w ∈ W, w < 65536) (s : St) : lim tbl (.call 70 [vSl ⟨Int.ofNat n, es, ss⟩, sl cW W]) s = some (.ret, [sl cP (paidL W n)], s) := by
  rw [lim_call tbl_70]; obtain ⟨N, O, p, q⟩ := s
  by_cases hn1 : 1 < n
  · have h0 := l70 n hn1 hn es ss W h N O p q (bmod (wordF W 0) 6) 0 [] (by omega) rfl
    have hp : paidL W n = (List.range' 0 (bmod (wordF W 0) 6)).map (payOf W n) := if_pos hn1
    rw [nil_app, ownSl_nil, show lenOf ([] : List Pay) = 0 from rfl, roomP_0, roomC_0, ofNat_0, ← hp] at h0
    generalize paidL W n = A at h0 ⊢
    (try simp only [go_sem, ↓reduceIte, Nat.reduceAdd, Nat.reduceEqDiff, Nat.reduceLT, Nat.reduceLeDiff, Nat.reduceBEq, Int.reduceEq, Int.reduceLT, Int.reduceLE]); (repeat ((first | rw [h0] | (rw [lt_yes]; rotate_left; (first | omega | (simp [lenOf, app]; omega) | (simp only [lenOf]; omega))) | (rw [lt_no]; rotate_left; (first | omega | (simp [lenOf, app]; omega) | (simp only [lenOf]; omega))) | (rw [idxA_at]; rotate_left; (first | omega | (simp [lenOf, app]; omega) | (simp only [lenOf]; omega))) | (rw [wr_up]; rotate_left; (first | omega | (simp [lenOf, app]; omega) | (simp only [lenOf]; omega))) | ((first | rw [drop_cI] | rw [drop_cE] | rw [drop_cS] | rw [drop_cP] | rw [drop_cR]); rotate_left; assumption)); try simp only [go_sem, ↓reduceIte, Nat.reduceAdd, Nat.reduceEqDiff, Nat.reduceLT, Nat.reduceLeDiff, Nat.reduceBEq, Int.reduceEq, Int.reduceLT, Int.reduceLE]))
  · have hp : paidL W n = [] := if_neg hn1
    rw [hp]
    have c0 : ∀ s, lim tbl (.call 103 [sl cW W, i64 0]) s = some (.ret, [i64 (Int.ofNat (wordF W 0))], s) := fun s => k103 W h 0 s
    have r0 := rem6_at (wordF W 0)
    have hn2 : ¬ (1 : Int) < Int.ofNat n := by simp only [Int.ofNat_eq_natCast]; omega
    have hl : ∀ s, lim tbl (.loop a70_l0 51 ⟨[1, 2, 5, 6], [5], []⟩ [sl cW W, .vref [i64 (Int.ofNat n), sl cE es, sl cS ss], .sl0, i64 0]) s = some (.exit 0, [.sl0], s) := by
      intro s
      rw [lim_loop]
      obtain ⟨N, O, p, q⟩ := s
      by_cases hz : 0 < Int.ofNat (bmod (wordF W 0) 6)
      · (try simp only [go_sem, ↓reduceIte, Nat.reduceAdd, Nat.reduceEqDiff, Nat.reduceLT, Nat.reduceLeDiff, Nat.reduceBEq, Int.reduceEq, Int.reduceLT, Int.reduceLE]); (repeat ((first | simp only [c0] | rw [r0] | rw [lt_y hz] | rw [lt_n hn2] | (rw [lt_yes]; rotate_left; (first | omega | (simp [lenOf, app]; omega) | (simp only [lenOf]; omega))) | (rw [lt_no]; rotate_left; (first | omega | (simp [lenOf, app]; omega) | (simp only [lenOf]; omega))) | (rw [idxA_at]; rotate_left; (first | omega | (simp [lenOf, app]; omega) | (simp only [lenOf]; omega))) | (rw [wr_up]; rotate_left; (first | omega | (simp [lenOf, app]; omega) | (simp only [lenOf]; omega))) | ((first | rw [drop_cI] | rw [drop_cE] | rw [drop_cS] | rw [drop_cP] | rw [drop_cR]); rotate_left; assumption)); try simp only [go_sem, ↓reduceIte, Nat.reduceAdd, Nat.reduceEqDiff, Nat.reduceLT, Nat.reduceLeDiff, Nat.reduceBEq, Int.reduceEq, Int.reduceLT, Int.reduceLE]))
      · (try simp only [go_sem, ↓reduceIte, Nat.reduceAdd, Nat.reduceEqDiff, Nat.reduceLT, Nat.reduceLeDiff, Nat.reduceBEq, Int.reduceEq, Int.reduceLT, Int.reduceLE]); (repeat ((first | simp only [c0] | rw [r0] | rw [lt_n hz] | (rw [lt_yes]; rotate_left; (first | omega | (simp [lenOf, app]; omega) | (simp only [lenOf]; omega))) | (rw [lt_no]; rotate_left; (first | omega | (simp [lenOf, app]; omega) | (simp only [lenOf]; omega))) | (rw [idxA_at]; rotate_left; (first | omega | (simp [lenOf, app]; omega) | (simp only [lenOf]; omega))) | (rw [wr_up]; rotate_left; (first | omega | (simp [lenOf, app]; omega) | (simp only [lenOf]; omega))) | ((first | rw [drop_cI] | rw [drop_cE] | rw [drop_cS] | rw [drop_cP] | rw [drop_cR]); rotate_left; assumption)); try simp only [go_sem, ↓reduceIte, Nat.reduceAdd, Nat.reduceEqDiff, Nat.reduceLT, Nat.reduceLeDiff, Nat.reduceBEq, Int.reduceEq, Int.reduceLT, Int.reduceLE]))
    (try simp only [go_sem, ↓reduceIte, Nat.reduceAdd, Nat.reduceEqDiff, Nat.reduceLT, Nat.reduceLeDiff, Nat.reduceBEq, Int.reduceEq, Int.reduceLT, Int.reduceLE]); (repeat ((first | simp only [hl] | (rw [lt_yes]; rotate_left; (first | omega | (simp [lenOf, app]; omega) | (simp only [lenOf]; omega))) | (rw [lt_no]; rotate_left; (first | omega | (simp [lenOf, app]; omega) | (simp only [lenOf]; omega))) | (rw [idxA_at]; rotate_left; (first | omega | (simp [lenOf, app]; omega) | (simp only [lenOf]; omega))) | (rw [wr_up]; rotate_left; (first | omega | (simp [lenOf, app]; omega) | (simp only [lenOf]; omega))) | ((first | rw [drop_cI] | rw [drop_cE] | rw [drop_cS] | rw [drop_cP] | rw [drop_cR]); rotate_left; assumption)); try simp only [go_sem, ↓reduceIte, Nat.reduceAdd, Nat.reduceEqDiff, Nat.reduceLT, Nat.reduceLeDiff, Nat.reduceBEq, Int.reduceEq, Int.reduceLT, Int.reduceLE]))
end Go.Proofs.Ytlhfeiacigmliaa

/- From the evaluator to the rows: arguments beside a slate. -/
namespace Go.Proofs.Ytlhfeiacigmliaa
open Go Go.ChangeShapes Go.RowKit
set_option maxRecDepth 100000
section
variable {H : Type} {enc : TypeId × Value → H} {w : World} {base : Nat}
theorem rel_int {P : Program} {t : TypeId} {kd : IntKind} (hu : P.underlying t = some (.int kd)) {v : Value} {d : DataW H} {p : List MemPlace} (hok : Value.okWide P w .any base t v) (h : DataW.Trod enc P w 0 (fun _ => true) true t v d p) : ∃ n : Int, v = .int kd n ∧ (Lit.int kd n).wf = true := by
  obtain ⟨fuel, h⟩ := h
  unfold Value.okWide at hok
  rw [hu] at hok
  cases fuel with
  | zero => simp [DataW.trod] at h
  | succ fuel =>
    unfold DataW.trod at h
    rw [hu] at h
    cases v with
    | int k n =>
      simp only [Value.cells] at h
      split at h
      · rename_i hc
        obtain ⟨rfl, hw⟩ := hc
        exact ⟨n, rfl, hw⟩
      · cases h
    | agg cs =>
      exfalso
      unfold Cell.okWide at hok
      rw [hu] at hok
      unfold Cell.ok at hok
      rw [hu] at hok
      exact hok
    | _ => simp only [Value.cells] at h; cases h
theorem rel_u16 {v : Value} {d : DataW H} {p : List MemPlace} (hok : Value.okWide Try.prog w .any base 69 v) (h : DataW.Trod enc Try.prog w 0 (fun _ => true) true 69 v d p) : ∃ m : Nat, m < 65536 ∧ VRel (rho0 w) (.int .u16 (Int.ofNat m)) v := by
  obtain ⟨n, rfl, hw⟩ := rel_int Try.underlying69 hok h
  simp only [Lit.wf, Bool.and_eq_true, decide_eq_true_eq, show IntKind.min .u16 = 0 from rfl, show IntKind.max .u16 = 65535 from rfl] at hw
  obtain ⟨m, rfl⟩ : ∃ m : Nat, n = Int.ofNat m := ⟨n.toNat, by simp; omega⟩
  exact ⟨m, by simp at hw; omega, rfl⟩
theorem one_cell {P : Program} {t e : TypeId} (hu : P.underlying t = some (.slice e)) {v : Value} (hok : Value.okWide P w .any base t v) : v.cells.toList = [v] ∧ ∀ a len cap, v = .slice (some a) len cap → a.spot = none := by
  unfold Value.okWide at hok
  rw [hu] at hok
  refine ⟨?_, spot_of_ok hu hok⟩
  cases v with
  | agg cs =>
    exfalso
    unfold Cell.okWide at hok
    rw [hu] at hok
    unfold Cell.ok at hok
    rw [hu] at hok
    exact hok
  | _ => rfl
end
end Go.Proofs.Ytlhfeiacigmliaa

/- From the evaluator to the rows: words beside a slate. -/
namespace Go.Proofs.Ytlhfeiacigmliaa
open Go Go.ChangeShapes Go.RowKit
set_option maxRecDepth 100000
section
variable {H : Type} {enc : TypeId × Value → H} {w : World} {base : Nat}
theorem c69 : Try.prog.cellsOf 69 = 1 := by kernel_rfl
theorem trd_u16 {fuel : Nat} {cs : List Value} {x : DataW H × List MemPlace} (h : trd enc Try.prog w fuel 69 cs = some x) : ∃ n : Nat, n < 65536 ∧ cs = [.int .u16 (Int.ofNat n)] := by
  cases fuel with
  | zero => simp [trd, DataW.trod] at h
  | succ fuel =>
    unfold trd DataW.trod at h
    rw [Try.underlying69] at h
    rcases cs with _ | ⟨v, _ | ⟨v2, r⟩⟩
    · cases h
    · cases v with
      | int k n =>
        simp only at h
        split at h
        · rename_i hc
          obtain ⟨rfl, hw⟩ := hc
          simp only [Lit.wf, Bool.and_eq_true, decide_eq_true_eq, show IntKind.min .u16 = 0 from rfl, show IntKind.max .u16 = 65535 from rfl] at hw
          obtain ⟨m, rfl⟩ : ∃ m : Nat, n = Int.ofNat m := ⟨n.toNat, by simp; omega⟩
          exact ⟨m, by simp at hw; omega, rfl⟩
        · cases h
      | _ => cases h
    · cases v <;> cases h
theorem words_vals {fuel : Nat} {v : Value} {x : DataW H × List MemPlace} (h : trd enc Try.prog w fuel 97 [v] = some x)
    (hs : ∀ a len cap, v = .slice (some a) len cap → a.spot = none) : ∃ W : List Nat, (∀ n ∈ W, n < 65536) ∧ VRel (rho0 w) (sl cW W) v := by
  rcases trd_slice Try.underlying97 h with h | ⟨a, len, cap, h, hlc, fuel', he⟩
  · simp only [List.cons.injEq, and_true] at h
    subst h
    exact ⟨[], by simp, Or.inl ⟨rfl, rfl, fun p hp => (by cases hp), rfl⟩⟩
  · simp only [List.cons.injEq, and_true] at h
    have hsp := hs a len cap h
    subst h
    obtain ⟨R, off, sp⟩ := a
    simp only at hsp
    subst hsp
    have hcell : ∀ j, ∃ n : Nat, n < 65536 ∧ (j < len → w.cell? ⟨R, off + j, none⟩ = some (.int .u16 (Int.ofNat n))) := by
      intro j
      by_cases hj : j < len
      · obtain ⟨row, y, g1, g2⟩ := he j hj
        rw [c69] at g1
        obtain ⟨_, hrl, hrc⟩ := World.cells?_some g1
        obtain ⟨n, hn, hr⟩ := trd_u16 g2
        refine ⟨n, hn, fun _ => ?_⟩
        have := hrc 0 (by omega)
        rw [hr] at this
        simp only [List.getElem?_cons_zero] at this
        rw [← this]
        congr 1
        simp [Addr.add]
      · exact ⟨0, by omega, fun h => absurd h hj⟩
    have hc : ∀ l : List Nat, cellsOf cW (l.map fun j => (hcell j).choose) = l.map fun j => AVal.int .u16 (Int.ofNat (hcell j).choose) := by
      intro l
      induction l with
      | nil => rfl
      | cons a l ih => rw [List.map_cons, cells_cons, ih]; rfl
    refine ⟨(List.range len).map fun j => (hcell j).choose, ?_, ?_⟩
    · intro n hn
      rw [List.mem_map] at hn
      obtain ⟨j, _, rfl⟩ := hn
      exact (hcell j).choose_spec.1
    · have hl : lenOf ((List.range len).map fun j => (hcell j).choose) = len := by simp [lenOf]
      unfold sl
      rw [hl, hc]
      refine Or.inr ⟨R, off, cap, rfl, hlc, IRel.of_get fun i a ha => ?_, trivial⟩
      have hi : i < len := by
        rcases Nat.lt_or_ge i len with h | h
        · exact h
        · rw [List.getElem?_eq_none (by simpa using h)] at ha; cases ha
      rw [List.getElem?_map, List.getElem?_range hi] at ha
      simp only [Option.map_some, Option.some.injEq] at ha
      subst ha
      exact ⟨_, (hcell i).choose_spec.2 hi, rfl, rfl⟩
theorem rel_words {v : Value} {d : DataW H} {p : List MemPlace} (hok : Value.okWide Try.prog w .any base 97 v) (h : DataW.Trod enc Try.prog w 0 (fun _ => true) true 97 v d p) : ∃ W : List Nat, (∀ n ∈ W, n < 65536) ∧ VRel (rho0 w) (sl cW W) v := by
  obtain ⟨fuel, h⟩ := h
  obtain ⟨h1, h2⟩ := one_cell Try.underlying97 hok
  rw [h1] at h
  exact words_vals h h2
end
end Go.Proofs.Ytlhfeiacigmliaa
