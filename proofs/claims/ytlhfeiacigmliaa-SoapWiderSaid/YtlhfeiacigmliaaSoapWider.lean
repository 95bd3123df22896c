/- The law SoapWider answers true for every slate and numbers: with wider Ounces or Owed no bounds are narrower, no verdict becomes other than Perhaps unless it was so, as long as there was a truth, and no more sayings have to be left out. -/
import Derived.Test.YtlhfeiacigmliaaPartI
set_option linter.all false
namespace Go.Proofs.Ytlhfeiacigmliaa
open Go Go.ChangeShapes Go.RowKit
set_option maxRecDepth 100000
set_option maxHeartbeats 4000000

theorem appHs_empty {α : Type} {f : α → List AVal} (sz bytes : Nat) {l : List α} (h : l.length = 0) (s : St) :
    appendHsA sz bytes (.vsl [] 0 .full) (.vsl (cellsOf f l) (lenOf l) .no) s = some (.vsl [] 0 .full, s) := by
  have := List.length_eq_zero_iff.mp h
  subst this
  simp [appendHsA, elemsA, cells_nil, lenOf]
theorem nth_cells {α : Type} {f : α → List AVal} {sz : Nat} (hf : ∀ a, (f a).length = sz) {l : List α} {i j : Nat} {a : α} {v : AVal} (h : l[i]? = some a) (hj : (f a)[j]? = some v) {off : Nat} (ho : off = Nat.mul i sz + j) : nthO (some (.cells (cellsOf f l))) off = some v := by
  subst ho
  have hd := drop_cells hf h
  have hjl := (List.getElem?_eq_some_iff.1 hj).1
  simp only [nthO]
  rw [← List.getElem?_drop, hd, List.getElem?_append_left hjl, hj]
theorem set_cells {α : Type} {f : α → List AVal} {sz : Nat} (hf : ∀ a, (f a).length = sz) : ∀ {l : List α} {i j : Nat} {a b : α} {v : AVal}, l[i]? = some a → f b = (f a).set j v → j < sz → (cellsOf f l).set (Nat.mul i sz + j) v = cellsOf f (l.set i b)
  | [], _, _, _, _, _, h, _, _ => by simp at h
  | x :: l, 0, j, a, b, v, h, hb, hj => by
    simp only [List.getElem?_cons_zero, Option.some.injEq] at h
    subst h
    rw [show Nat.mul 0 sz + j = j by simp, cells_cons, List.set_cons_zero, cells_cons, hb, List.set_append_left _ _ (by rw [hf]; exact hj)]
  | x :: l, i + 1, j, a, b, v, h, hb, hj => by
    simp only [List.getElem?_cons_succ] at h
    have e : Nat.mul (i + 1) sz + j = (f x).length + (Nat.mul i sz + j) := by
      rw [hf]; show (i + 1) * sz + j = sz + (i * sz + j); rw [Nat.add_mul]; omega
    rw [e, cells_cons, List.set_cons_succ, cells_cons, List.set_append_right _ _ (by omega), Nat.add_sub_cancel_left, set_cells hf h hb hj]
theorem store_cells {α : Type} {f : α → List AVal} {sz : Nat} (hf : ∀ a, (f a).length = sz) {l : List α} {i j : Nat} {a b : α} {v : AVal} (h : l[i]? = some a) (hb : f b = (f a).set j v) (hj : j < sz) {off : Nat} (ho : off = Nat.mul i sz + j) (s : St) (bl : Nat) :
    storeP (some (.cells (cellsOf f l))) s bl off [v] = some (s.set bl (.cells (cellsOf f (l.set i b)))) := by
  subst ho
  have hl : (cellsOf f l).length = l.length * sz := cells_length hf l
  have hi := (List.getElem?_eq_some_iff.1 h).1
  have h1 : Nat.mul i sz + j + 1 ≤ l.length * sz := by
    have : (i + 1) * sz ≤ l.length * sz := Nat.mul_le_mul_right _ hi
    rw [Nat.add_mul] at this
    show i * sz + j + 1 ≤ _
    omega
  simp only [storeP, splice, List.length_singleton, hl]
  rw [if_pos h1, set_cells hf h hb hj]
theorem bmod2 (u : Nat) : bmod u 2 < 2 := Nat.mod_lt _ (by omega)
theorem k12 (S : Slate) (t : Nat) (ht : t < 256) (u : Nat) (hu : u < 256) (s : St) : lim tbl (.call 12 [vSl S, .int .u8 (Int.ofNat t), .int .u8 (Int.ofNat u)]) s = some (.ret, [.bool true], s) := by
  have h46 := fun s => k46 S s
  have h22 := fun s => k22 s
  rw [lim_call tbl_12]
  cases hT : readyS S with
  | false =>
    rw [hT] at h46
    obtain ⟨w, es, ss⟩ := S
    obtain ⟨N, O, p, q⟩ := s
    (try simp only [go_sem, ↓reduceIte, Nat.reduceAdd, Nat.reduceEqDiff, Nat.reduceLT, Nat.reduceLeDiff, Nat.reduceBEq, Int.reduceEq, Int.reduceLT, Int.reduceLE]); (repeat ((first | simp only [h46] | simp only [h22] | (rw [lt_yes]; rotate_left; (first | omega | (simp [lenOf, app]; omega) | (simp only [lenOf]; omega))) | (rw [lt_no]; rotate_left; (first | omega | (simp [lenOf, app]; omega) | (simp only [lenOf]; omega))) | (rw [idxA_at]; rotate_left; (first | omega | (simp [lenOf, app]; omega) | (simp only [lenOf]; omega))) | (rw [wr_up]; rotate_left; (first | omega | (simp [lenOf, app]; omega) | (simp only [lenOf]; omega))) | ((first | rw [drop_cI] | rw [drop_cE] | rw [drop_cS] | rw [drop_cP] | rw [drop_cR]); rotate_left; assumption)); try simp only [go_sem, ↓reduceIte, Nat.reduceAdd, Nat.reduceEqDiff, Nat.reduceLT, Nat.reduceLeDiff, Nat.reduceBEq, Int.reduceEq, Int.reduceLT, Int.reduceLE]))
  | true =>
    rw [hT] at h46
    obtain ⟨hc, hT1⟩ := ready_inv hT
    have hG := good_of_check hc
    have e6 := hG.e6
    have s5 := hG.s5
    have oe := hG.oe
    have osy := (check_iff.1 hc).2.2.1
    have eA : wr .i64 (Int.add (Int.ofNat (lenOf S.es)) (Int.ofNat (lenOf S.ss))) = Int.ofNat (lenOf S.es + lenOf S.ss) := by
      unfold lenOf
      rw [fold_add, wr_in] <;> simp only [Int.ofNat_eq_natCast] <;> omega
    by_cases hz : Int.ofNat (lenOf S.es + lenOf S.ss) = 0
    · obtain ⟨w, es, ss⟩ := S
      simp only at hz eA
      obtain ⟨N, O, p, q⟩ := s
      (try simp only [go_sem, ↓reduceIte, Nat.reduceAdd, Nat.reduceEqDiff, Nat.reduceLT, Nat.reduceLeDiff, Nat.reduceBEq, Int.reduceEq, Int.reduceLT, Int.reduceLE]); (repeat ((first | simp only [h46] | rw [eA] | rw [eq_y hz] | simp only [h22] | (rw [lt_yes]; rotate_left; (first | omega | (simp [lenOf, app]; omega) | (simp only [lenOf]; omega))) | (rw [lt_no]; rotate_left; (first | omega | (simp [lenOf, app]; omega) | (simp only [lenOf]; omega))) | (rw [idxA_at]; rotate_left; (first | omega | (simp [lenOf, app]; omega) | (simp only [lenOf]; omega))) | (rw [wr_up]; rotate_left; (first | omega | (simp [lenOf, app]; omega) | (simp only [lenOf]; omega))) | ((first | rw [drop_cI] | rw [drop_cE] | rw [drop_cS] | rw [drop_cP] | rw [drop_cR]); rotate_left; assumption)); try simp only [go_sem, ↓reduceIte, Nat.reduceAdd, Nat.reduceEqDiff, Nat.reduceLT, Nat.reduceLeDiff, Nat.reduceBEq, Int.reduceEq, Int.reduceLT, Int.reduceLE]))
    have hz' : lenOf S.es + lenOf S.ss ≠ 0 := fun h => hz (by rw [h]; rfl)
    have hwt : wr .i64 (Int.ofNat t) = Int.ofNat t := wr_nat (by omega)
    have hwu : wr .i64 (Int.ofNat u) = Int.ofNat u := wr_nat (by omega)
    have hr : remI (Int.ofNat t) (Int.ofNat (lenOf S.es + lenOf S.ss)) = some (i64 (Int.ofNat (bmod t (lenOf S.es + lenOf S.ss)))) := rem_at hz'
    have hb : bmod t (lenOf S.es + lenOf S.ss) < lenOf S.es + lenOf S.ss := Nat.mod_lt _ (by omega)
    have d1 : remI (Int.ofNat u) 2 = some (i64 (Int.ofNat (bmod u 2))) := rem_at (b := 2) (by omega)
    have d2 : quoI (Int.ofNat u) 2 = some (i64 (Int.ofNat (u / 2))) := quo_at (b := 2) (by omega) (by omega)
    have d3 : remI (Int.ofNat (u / 2)) 2 = some (i64 (Int.ofNat (bmod (u / 2) 2))) := rem_at (b := 2) (by omega)
    have u1 := bmod2 u
    have u2 := bmod2 (u / 2)
    generalize bmod u 2 = m1 at d1 u1
    generalize bmod (u / 2) 2 = m2 at d3 u2
    generalize bmod t (lenOf S.es + lenOf S.ss) = k at hr hb
    have h24 := fun s => k24 S (by omega) (by omega) s
    have h41 := fun s => k41 S s
    rw [hc] at h41
    obtain ⟨N, O, p, q⟩ := s
    by_cases hes : S.es.length = 0
    · have hes' : lenOf S.es = 0 := hes
      have hss : S.ss.length ≠ 0 := fun h => hz' (by unfold lenOf; omega)
      have hk : ¬ k < lenOf S.es := by omega
      have a1 := fun s => appHs_empty (f := cE) 4 32 hes s
      have a2 := fun N O => appHs_at (f := cS) (sz := 3) (fun _ => rfl) 24 N O p q S.ss hss (by omega) (by omega)
      have eB : wr .i64 (Int.add 0 (Int.ofNat (lenOf S.ss))) = Int.ofNat (lenOf S.es + lenOf S.ss) := by
        unfold lenOf
        rw [fold_add, wr_in] <;> simp only [Int.ofNat_eq_natCast] <;> omega
      have hk1 : ¬ Int.ofNat k < 0 := by simp only [Int.ofNat_eq_natCast]; omega
      have hle : lenOf S.es = 0 := hes
      have hsub : wr .i64 (Int.sub (Int.ofNat k) 0) = Int.ofNat (k - lenOf S.es) := by
        rw [hle]
        unfold lenOf at hb
        simp only [Int.ofNat_eq_natCast]; rw [fold_sub, wr_in] <;> omega
      have hk2 : k - lenOf S.es < lenOf S.ss := by omega
      generalize k - lenOf S.es = j at hsub hk2
      obtain ⟨⟨f, ⟨lo, hi⟩⟩, he⟩ : ∃ e, S.ss[j]? = some e := ⟨_, List.getElem?_eq_getElem hk2⟩
      have hoe := osy _ (List.mem_of_getElem? he)
      simp only [sayOk, Bool.and_eq_true, between_iff] at hoe
      have w1 : wr .i64 (Int.sub lo (Int.ofNat m1)) = lo - Int.ofNat m1 := by simp only [Int.ofNat_eq_natCast]; rw [fold_sub, wr_in] <;> omega
      have w2 : wr .i64 (Int.add hi (Int.ofNat m2)) = hi + Int.ofNat m2 := by simp only [Int.ofNat_eq_natCast]; rw [fold_add, wr_in] <;> omega
      have hW := wider_say (r := ⟨lo - Int.ofNat m1, hi + Int.ofNat m2⟩) he (by simp only [Int.ofNat_eq_natCast]; omega) (by simp only [Int.ofNat_eq_natCast]; omega)
      simp only at hW
      have he1 : (S.ss.set j ⟨f, ⟨lo - Int.ofNat m1, hi⟩⟩)[j]? = some ⟨f, ⟨lo - Int.ofNat m1, hi⟩⟩ := by rw [List.getElem?_set_self hk2]
      have hee : (S.ss.set j ⟨f, ⟨lo - Int.ofNat m1, hi⟩⟩).set j ⟨f, ⟨lo - Int.ofNat m1, hi + Int.ofNat m2⟩⟩ = S.ss.set j ⟨f, ⟨lo - Int.ofNat m1, hi + Int.ofNat m2⟩⟩ := List.set_set ..
      have hix : idxA (i64 (Int.ofNat j)) (lenOf S.ss) = some j := idxA_at hk2
      have n1 : nthO (some (.cells (cellsOf cS S.ss))) (na (na (na 0 (Nat.mul j 3)) 1) 0) = some (i64 lo) := nth_cells (f := cS) (sz := 3) (fun _ => rfl) (j := 1) he rfl (by simp [na])
      have n2 : nthO (some (.cells (cellsOf cS S.ss))) (na (na (na 0 (Nat.mul j 3)) 1) 1) = some (i64 hi) := nth_cells (f := cS) (sz := 3) (fun _ => rfl) (j := 2) he rfl (by simp [na])
      have s1 : ∀ s b, storeP (some (.cells (cellsOf cS S.ss))) s b (na (na (na 0 (Nat.mul j 3)) 1) 0) [i64 (lo - Int.ofNat m1)] = some (s.set b (.cells (cellsOf cS (S.ss.set j ⟨f, ⟨lo - Int.ofNat m1, hi⟩⟩)))) := fun s b => store_cells (f := cS) (sz := 3) (fun _ => rfl) (j := 1) (b := ⟨f, ⟨lo - Int.ofNat m1, hi⟩⟩) (v := i64 (lo - Int.ofNat m1)) he rfl (by omega) (off := (na (na (na 0 (Nat.mul j 3)) 1) 0)) (by simp [na]) s b
      have s2 : ∀ s b, storeP (some (.cells (cellsOf cS (S.ss.set j ⟨f, ⟨lo - Int.ofNat m1, hi⟩⟩)))) s b (na (na (na 0 (Nat.mul j 3)) 1) 1) [i64 (hi + Int.ofNat m2)] = some (s.set b (.cells (cellsOf cS (S.ss.set j ⟨f, ⟨lo - Int.ofNat m1, hi + Int.ofNat m2⟩⟩)))) := fun s b => by
        have h := store_cells (f := cS) (sz := 3) (fun _ => rfl) (j := 2) (b := ⟨f, ⟨lo - Int.ofNat m1, hi + Int.ofNat m2⟩⟩) (v := i64 (hi + Int.ofNat m2)) he1 rfl (by omega) (off := (na (na (na 0 (Nat.mul j 3)) 1) 1)) (by simp [na]) s b
        rwa [hee] at h
      obtain ⟨X, hX⟩ : ∃ X : Slate, X = ⟨S.women, S.es, S.ss.set j ⟨f, ⟨lo - Int.ofNat m1, hi + Int.ofNat m2⟩⟩⟩ := ⟨_, rfl⟩
      obtain ⟨B, hB⟩ : ∃ B, B = cellsOf cS (S.ss.set j ⟨f, ⟨lo - Int.ofNat m1, hi + Int.ofNat m2⟩⟩) := ⟨_, rfl⟩
      rw [← hB] at s2
      have hI : IceS ⟨(na (na (na N 1) 1) 1), .cells [i64 0, i64 0] :: .cells B :: .cells [i64 S.women, .vsl [] 0 .full, .hsl (na N 1) 0 (lenOf S.ss) none] :: O, p, q⟩ (.agg [i64 S.women, .vsl [] 0 .full, .hsl (na N 1) 0 (lenOf S.ss) none]) X := by
        rw [hX]
        exact iceS_mk (by have h0 := fz_vsl (s := ⟨(na (na (na N 1) 1) 1), .cells [i64 0, i64 0] :: .cells B :: .cells [i64 S.women, .vsl [] 0 .full, .hsl (na N 1) 0 (lenOf S.ss) none] :: O, p, q⟩) (f := cE) (fz_cE 5 _) [] 0 .full; have h1 : S.es = [] := List.length_eq_zero_iff.mp hes; rw [h1]; exact h0) (by have h0 := fz_hsl (s := ⟨(na (na (na N 1) 1) 1), .cells [i64 0, i64 0] :: .cells B :: .cells [i64 S.women, .vsl [] 0 .full, .hsl (na N 1) 0 (lenOf S.ss) none] :: O, p, q⟩) (f := cS) (fz_cS 5 _) (b := (na N 1)) (l := S.ss.set j ⟨f, ⟨lo - Int.ofNat m1, hi + Int.ofNat m2⟩⟩) (by rw [← hB]; exact get_3_1 ..); rwa [show lenOf (S.ss.set j ⟨f, ⟨lo - Int.ofNat m1, hi + Int.ofNat m2⟩⟩) = lenOf S.ss by simp [lenOf]] at h0)
      have hJ : IceS ⟨(na (na (na N 1) 1) 1), .cells [i64 0, i64 0] :: .cells B :: .cells [i64 S.women, .vsl [] 0 .full, .hsl (na N 1) 0 (lenOf S.ss) none] :: O, p, q⟩ (vSl S) S := iceS_self _ S
      have j46 := k46i hI
      rw [← hX] at hW
      cases hY : readyS X with
      | false =>
        rw [hY] at j46
        clear hW hI hJ hX h24 h41 oe osy hc hT hG hz' hB hee he1
        obtain ⟨w, es, ss⟩ := S
        simp only at a1 a2 eA hz hr h46 n1 n2 s1 s2 hix j46 hk1 eB
        (try simp only [go_sem, ↓reduceIte, Nat.reduceAdd, Nat.reduceEqDiff, Nat.reduceLT, Nat.reduceLeDiff, Nat.reduceBEq, Int.reduceEq, Int.reduceLT, Int.reduceLE]); (repeat ((first | simp only [h46] | rw [eA] | rw [eq_n hz] | rw [a1] | rw [a2] | rw [eB] | rw [hwt] | rw [hr] | rw [lt_n hk1] | rw [hsub] | rw [hix] | rw [n1] | rw [n2] | rw [hwu] | rw [d1] | rw [d2] | rw [d3] | rw [w1] | rw [w2] | rw [s1] | rw [s2] | rw [j46] | simp only [h22] | (rw [lt_yes]; rotate_left; (first | omega | (simp [lenOf, app]; omega) | (simp only [lenOf]; omega))) | (rw [lt_no]; rotate_left; (first | omega | (simp [lenOf, app]; omega) | (simp only [lenOf]; omega))) | (rw [idxA_at]; rotate_left; (first | omega | (simp [lenOf, app]; omega) | (simp only [lenOf]; omega))) | (rw [wr_up]; rotate_left; (first | omega | (simp [lenOf, app]; omega) | (simp only [lenOf]; omega))) | ((first | rw [drop_cI] | rw [drop_cE] | rw [drop_cS] | rw [drop_cP] | rw [drop_cR]); rotate_left; assumption)); try simp only [go_sem, ↓reduceIte, Nat.reduceAdd, Nat.reduceEqDiff, Nat.reduceLT, Nat.reduceLeDiff, Nat.reduceBEq, Int.reduceEq, Int.reduceLT, Int.reduceLE]))
      | true =>
        rw [hY] at j46
        have hcX := (ready_inv hY).1
        have gX := good_of_check hcX
        have x6 := gX.e6
        have x5 := gX.s5
        obtain ⟨v1, v2⟩ := wider_law hc hcX hW
        have j24 := k24i hI (by omega) (by omega)
        have g41 := fun s => k41 X s
        rw [hcX] at g41
        have j57 := fun h => k57i hJ hI (v2 h)
        have hle : ¬ Int.ofNat (lenOf (leaveL S)) < Int.ofNat (lenOf (leaveL X)) := by unfold lenOf; simp only [Int.ofNat_eq_natCast]; omega
        generalize leaveL X = L2 at g41 v1 v2 hle
        generalize leaveL S = L1 at h41 v1 v2 hle j57
        clear hW hI hJ hX oe osy hc hT hG hz' hB hee he1 hcX gX hY x6 x5 v2
        obtain ⟨w, es, ss⟩ := S
        obtain ⟨wx, ex, sx⟩ := X
        simp only at a1 a2 eA hz hr h46 n1 n2 s1 s2 hix j46 j24 j57 hk1 h24 eB
        by_cases h0 : L1.length = 0
        · have hp : ¬ (0 : Int) < Int.ofNat (lenOf L1) := by unfold lenOf; rw [h0]; decide
          have j57 := j57 h0
          (try simp only [go_sem, ↓reduceIte, Nat.reduceAdd, Nat.reduceEqDiff, Nat.reduceLT, Nat.reduceLeDiff, Nat.reduceBEq, Int.reduceEq, Int.reduceLT, Int.reduceLE]); (repeat ((first | simp only [h46] | rw [eA] | rw [eq_n hz] | rw [a1] | rw [a2] | rw [eB] | rw [hwt] | rw [hr] | rw [lt_n hk1] | rw [hsub] | rw [hix] | rw [n1] | rw [n2] | rw [hwu] | rw [d1] | rw [d2] | rw [d3] | rw [w1] | rw [w2] | rw [s1] | rw [s2] | rw [j46] | simp only [h24] | simp only [h41] | rw [j24] | simp only [g41] | rw [lt_n hle] | rw [lt_n hp] | rw [j57] | simp only [h22] | (rw [lt_yes]; rotate_left; (first | omega | (simp [lenOf, app]; omega) | (simp only [lenOf]; omega))) | (rw [lt_no]; rotate_left; (first | omega | (simp [lenOf, app]; omega) | (simp only [lenOf]; omega))) | (rw [idxA_at]; rotate_left; (first | omega | (simp [lenOf, app]; omega) | (simp only [lenOf]; omega))) | (rw [wr_up]; rotate_left; (first | omega | (simp [lenOf, app]; omega) | (simp only [lenOf]; omega))) | ((first | rw [drop_cI] | rw [drop_cE] | rw [drop_cS] | rw [drop_cP] | rw [drop_cR]); rotate_left; assumption)); try simp only [go_sem, ↓reduceIte, Nat.reduceAdd, Nat.reduceEqDiff, Nat.reduceLT, Nat.reduceLeDiff, Nat.reduceBEq, Int.reduceEq, Int.reduceLT, Int.reduceLE]))
        · have hp : (0 : Int) < Int.ofNat (lenOf L1) := by unfold lenOf; simp only [Int.ofNat_eq_natCast]; omega
          (try simp only [go_sem, ↓reduceIte, Nat.reduceAdd, Nat.reduceEqDiff, Nat.reduceLT, Nat.reduceLeDiff, Nat.reduceBEq, Int.reduceEq, Int.reduceLT, Int.reduceLE]); (repeat ((first | simp only [h46] | rw [eA] | rw [eq_n hz] | rw [a1] | rw [a2] | rw [eB] | rw [hwt] | rw [hr] | rw [lt_n hk1] | rw [hsub] | rw [hix] | rw [n1] | rw [n2] | rw [hwu] | rw [d1] | rw [d2] | rw [d3] | rw [w1] | rw [w2] | rw [s1] | rw [s2] | rw [j46] | simp only [h24] | simp only [h41] | rw [j24] | simp only [g41] | rw [lt_n hle] | rw [lt_y hp] | simp only [h22] | (rw [lt_yes]; rotate_left; (first | omega | (simp [lenOf, app]; omega) | (simp only [lenOf]; omega))) | (rw [lt_no]; rotate_left; (first | omega | (simp [lenOf, app]; omega) | (simp only [lenOf]; omega))) | (rw [idxA_at]; rotate_left; (first | omega | (simp [lenOf, app]; omega) | (simp only [lenOf]; omega))) | (rw [wr_up]; rotate_left; (first | omega | (simp [lenOf, app]; omega) | (simp only [lenOf]; omega))) | ((first | rw [drop_cI] | rw [drop_cE] | rw [drop_cS] | rw [drop_cP] | rw [drop_cR]); rotate_left; assumption)); try simp only [go_sem, ↓reduceIte, Nat.reduceAdd, Nat.reduceEqDiff, Nat.reduceLT, Nat.reduceLeDiff, Nat.reduceBEq, Int.reduceEq, Int.reduceLT, Int.reduceLE]))
    · by_cases hss : S.ss.length = 0
      · have hss' : lenOf S.ss = 0 := hss
        have hk : k < lenOf S.es := by omega
        have a1 := fun N O => appHs_at (f := cE) (sz := 4) (fun _ => rfl) 32 N O p q S.es hes (by omega) (by omega)
        have a2 := fun s => appHs_empty (f := cS) 3 24 hss s
        have eB : wr .i64 (Int.add (Int.ofNat (lenOf S.es)) 0) = Int.ofNat (lenOf S.es + lenOf S.ss) := by
          unfold lenOf
          rw [fold_add, wr_in] <;> simp only [Int.ofNat_eq_natCast] <;> omega
        have hk1 : Int.ofNat k < Int.ofNat (lenOf S.es) := by simp only [Int.ofNat_eq_natCast]; omega
        obtain ⟨⟨f, g, ⟨lo, hi⟩⟩, he⟩ : ∃ e, S.es[k]? = some e := ⟨_, List.getElem?_eq_getElem hk⟩
        have hoe := oe _ (List.mem_of_getElem? he)
        simp only at hoe
        have w1 : wr .i64 (Int.sub lo (Int.ofNat m1)) = lo - Int.ofNat m1 := by simp only [Int.ofNat_eq_natCast]; rw [fold_sub, wr_in] <;> omega
        have w2 : wr .i64 (Int.add hi (Int.ofNat m2)) = hi + Int.ofNat m2 := by simp only [Int.ofNat_eq_natCast]; rw [fold_add, wr_in] <;> omega
        have hW := wider_ent (r := ⟨lo - Int.ofNat m1, hi + Int.ofNat m2⟩) he (by simp only [Int.ofNat_eq_natCast]; omega) (by simp only [Int.ofNat_eq_natCast]; omega)
        simp only at hW
        have he1 : (S.es.set k ⟨f, g, ⟨lo - Int.ofNat m1, hi⟩⟩)[k]? = some ⟨f, g, ⟨lo - Int.ofNat m1, hi⟩⟩ := by rw [List.getElem?_set_self hk]
        have hee : (S.es.set k ⟨f, g, ⟨lo - Int.ofNat m1, hi⟩⟩).set k ⟨f, g, ⟨lo - Int.ofNat m1, hi + Int.ofNat m2⟩⟩ = S.es.set k ⟨f, g, ⟨lo - Int.ofNat m1, hi + Int.ofNat m2⟩⟩ := List.set_set ..
        have hix : idxA (i64 (Int.ofNat k)) (lenOf S.es) = some k := idxA_at hk
        have n1 : nthO (some (.cells (cellsOf cE S.es))) (na (na (na 0 (Nat.mul k 4)) 2) 0) = some (i64 lo) := nth_cells (f := cE) (sz := 4) (fun _ => rfl) (j := 2) he rfl (by simp [na])
        have n2 : nthO (some (.cells (cellsOf cE S.es))) (na (na (na 0 (Nat.mul k 4)) 2) 1) = some (i64 hi) := nth_cells (f := cE) (sz := 4) (fun _ => rfl) (j := 3) he rfl (by simp [na])
        have s1 : ∀ s b, storeP (some (.cells (cellsOf cE S.es))) s b (na (na (na 0 (Nat.mul k 4)) 2) 0) [i64 (lo - Int.ofNat m1)] = some (s.set b (.cells (cellsOf cE (S.es.set k ⟨f, g, ⟨lo - Int.ofNat m1, hi⟩⟩)))) := fun s b => store_cells (f := cE) (sz := 4) (fun _ => rfl) (j := 2) (b := ⟨f, g, ⟨lo - Int.ofNat m1, hi⟩⟩) (v := i64 (lo - Int.ofNat m1)) he rfl (by omega) (off := (na (na (na 0 (Nat.mul k 4)) 2) 0)) (by simp [na]) s b
        have s2 : ∀ s b, storeP (some (.cells (cellsOf cE (S.es.set k ⟨f, g, ⟨lo - Int.ofNat m1, hi⟩⟩)))) s b (na (na (na 0 (Nat.mul k 4)) 2) 1) [i64 (hi + Int.ofNat m2)] = some (s.set b (.cells (cellsOf cE (S.es.set k ⟨f, g, ⟨lo - Int.ofNat m1, hi + Int.ofNat m2⟩⟩)))) := fun s b => by
          have h := store_cells (f := cE) (sz := 4) (fun _ => rfl) (j := 3) (b := ⟨f, g, ⟨lo - Int.ofNat m1, hi + Int.ofNat m2⟩⟩) (v := i64 (hi + Int.ofNat m2)) he1 rfl (by omega) (off := (na (na (na 0 (Nat.mul k 4)) 2) 1)) (by simp [na]) s b
          rwa [hee] at h
        obtain ⟨X, hX⟩ : ∃ X : Slate, X = ⟨S.women, S.es.set k ⟨f, g, ⟨lo - Int.ofNat m1, hi + Int.ofNat m2⟩⟩, S.ss⟩ := ⟨_, rfl⟩
        obtain ⟨B, hB⟩ : ∃ B, B = cellsOf cE (S.es.set k ⟨f, g, ⟨lo - Int.ofNat m1, hi + Int.ofNat m2⟩⟩) := ⟨_, rfl⟩
        rw [← hB] at s2
        have hI : IceS ⟨(na (na (na N 1) 1) 1), .cells [i64 0, i64 0] :: .cells B :: .cells [i64 S.women, .hsl (na N 1) 0 (lenOf S.es) none, .vsl [] 0 .full] :: O, p, q⟩ (.agg [i64 S.women, .hsl (na N 1) 0 (lenOf S.es) none, .vsl [] 0 .full]) X := by
          rw [hX]
          exact iceS_mk (by have h0 := fz_hsl (s := ⟨(na (na (na N 1) 1) 1), .cells [i64 0, i64 0] :: .cells B :: .cells [i64 S.women, .hsl (na N 1) 0 (lenOf S.es) none, .vsl [] 0 .full] :: O, p, q⟩) (f := cE) (fz_cE 5 _) (b := (na N 1)) (l := S.es.set k ⟨f, g, ⟨lo - Int.ofNat m1, hi + Int.ofNat m2⟩⟩) (by rw [← hB]; exact get_3_1 ..); rwa [show lenOf (S.es.set k ⟨f, g, ⟨lo - Int.ofNat m1, hi + Int.ofNat m2⟩⟩) = lenOf S.es by simp [lenOf]] at h0) (by have h0 := fz_vsl (s := ⟨(na (na (na N 1) 1) 1), .cells [i64 0, i64 0] :: .cells B :: .cells [i64 S.women, .hsl (na N 1) 0 (lenOf S.es) none, .vsl [] 0 .full] :: O, p, q⟩) (f := cS) (fz_cS 5 _) [] 0 .full; have h1 : S.ss = [] := List.length_eq_zero_iff.mp hss; rw [h1]; exact h0)
        have hJ : IceS ⟨(na (na (na N 1) 1) 1), .cells [i64 0, i64 0] :: .cells B :: .cells [i64 S.women, .hsl (na N 1) 0 (lenOf S.es) none, .vsl [] 0 .full] :: O, p, q⟩ (vSl S) S := iceS_self _ S
        have j46 := k46i hI
        rw [← hX] at hW
        cases hY : readyS X with
        | false =>
          rw [hY] at j46
          clear hW hI hJ hX h24 h41 oe osy hc hT hG hz' hB hee he1
          obtain ⟨w, es, ss⟩ := S
          simp only at a1 a2 eA hz hr h46 n1 n2 s1 s2 hix j46 hk1 eB
          (try simp only [go_sem, ↓reduceIte, Nat.reduceAdd, Nat.reduceEqDiff, Nat.reduceLT, Nat.reduceLeDiff, Nat.reduceBEq, Int.reduceEq, Int.reduceLT, Int.reduceLE]); (repeat ((first | simp only [h46] | rw [eA] | rw [eq_n hz] | rw [a1] | rw [a2] | rw [eB] | rw [hwt] | rw [hr] | rw [lt_y hk1] | rw [hix] | rw [n1] | rw [n2] | rw [hwu] | rw [d1] | rw [d2] | rw [d3] | rw [w1] | rw [w2] | rw [s1] | rw [s2] | rw [j46] | simp only [h22] | (rw [lt_yes]; rotate_left; (first | omega | (simp [lenOf, app]; omega) | (simp only [lenOf]; omega))) | (rw [lt_no]; rotate_left; (first | omega | (simp [lenOf, app]; omega) | (simp only [lenOf]; omega))) | (rw [idxA_at]; rotate_left; (first | omega | (simp [lenOf, app]; omega) | (simp only [lenOf]; omega))) | (rw [wr_up]; rotate_left; (first | omega | (simp [lenOf, app]; omega) | (simp only [lenOf]; omega))) | ((first | rw [drop_cI] | rw [drop_cE] | rw [drop_cS] | rw [drop_cP] | rw [drop_cR]); rotate_left; assumption)); try simp only [go_sem, ↓reduceIte, Nat.reduceAdd, Nat.reduceEqDiff, Nat.reduceLT, Nat.reduceLeDiff, Nat.reduceBEq, Int.reduceEq, Int.reduceLT, Int.reduceLE]))
        | true =>
          rw [hY] at j46
          have hcX := (ready_inv hY).1
          have gX := good_of_check hcX
          have x6 := gX.e6
          have x5 := gX.s5
          obtain ⟨v1, v2⟩ := wider_law hc hcX hW
          have j24 := k24i hI (by omega) (by omega)
          have g41 := fun s => k41 X s
          rw [hcX] at g41
          have j57 := fun h => k57i hJ hI (v2 h)
          have hle : ¬ Int.ofNat (lenOf (leaveL S)) < Int.ofNat (lenOf (leaveL X)) := by unfold lenOf; simp only [Int.ofNat_eq_natCast]; omega
          generalize leaveL X = L2 at g41 v1 v2 hle
          generalize leaveL S = L1 at h41 v1 v2 hle j57
          clear hW hI hJ hX oe osy hc hT hG hz' hB hee he1 hcX gX hY x6 x5 v2
          obtain ⟨w, es, ss⟩ := S
          obtain ⟨wx, ex, sx⟩ := X
          simp only at a1 a2 eA hz hr h46 n1 n2 s1 s2 hix j46 j24 j57 hk1 h24 eB
          by_cases h0 : L1.length = 0
          · have hp : ¬ (0 : Int) < Int.ofNat (lenOf L1) := by unfold lenOf; rw [h0]; decide
            have j57 := j57 h0
            (try simp only [go_sem, ↓reduceIte, Nat.reduceAdd, Nat.reduceEqDiff, Nat.reduceLT, Nat.reduceLeDiff, Nat.reduceBEq, Int.reduceEq, Int.reduceLT, Int.reduceLE]); (repeat ((first | simp only [h46] | rw [eA] | rw [eq_n hz] | rw [a1] | rw [a2] | rw [eB] | rw [hwt] | rw [hr] | rw [lt_y hk1] | rw [hix] | rw [n1] | rw [n2] | rw [hwu] | rw [d1] | rw [d2] | rw [d3] | rw [w1] | rw [w2] | rw [s1] | rw [s2] | rw [j46] | simp only [h24] | simp only [h41] | rw [j24] | simp only [g41] | rw [lt_n hle] | rw [lt_n hp] | rw [j57] | simp only [h22] | (rw [lt_yes]; rotate_left; (first | omega | (simp [lenOf, app]; omega) | (simp only [lenOf]; omega))) | (rw [lt_no]; rotate_left; (first | omega | (simp [lenOf, app]; omega) | (simp only [lenOf]; omega))) | (rw [idxA_at]; rotate_left; (first | omega | (simp [lenOf, app]; omega) | (simp only [lenOf]; omega))) | (rw [wr_up]; rotate_left; (first | omega | (simp [lenOf, app]; omega) | (simp only [lenOf]; omega))) | ((first | rw [drop_cI] | rw [drop_cE] | rw [drop_cS] | rw [drop_cP] | rw [drop_cR]); rotate_left; assumption)); try simp only [go_sem, ↓reduceIte, Nat.reduceAdd, Nat.reduceEqDiff, Nat.reduceLT, Nat.reduceLeDiff, Nat.reduceBEq, Int.reduceEq, Int.reduceLT, Int.reduceLE]))
          · have hp : (0 : Int) < Int.ofNat (lenOf L1) := by unfold lenOf; simp only [Int.ofNat_eq_natCast]; omega
            (try simp only [go_sem, ↓reduceIte, Nat.reduceAdd, Nat.reduceEqDiff, Nat.reduceLT, Nat.reduceLeDiff, Nat.reduceBEq, Int.reduceEq, Int.reduceLT, Int.reduceLE]); (repeat ((first | simp only [h46] | rw [eA] | rw [eq_n hz] | rw [a1] | rw [a2] | rw [eB] | rw [hwt] | rw [hr] | rw [lt_y hk1] | rw [hix] | rw [n1] | rw [n2] | rw [hwu] | rw [d1] | rw [d2] | rw [d3] | rw [w1] | rw [w2] | rw [s1] | rw [s2] | rw [j46] | simp only [h24] | simp only [h41] | rw [j24] | simp only [g41] | rw [lt_n hle] | rw [lt_y hp] | simp only [h22] | (rw [lt_yes]; rotate_left; (first | omega | (simp [lenOf, app]; omega) | (simp only [lenOf]; omega))) | (rw [lt_no]; rotate_left; (first | omega | (simp [lenOf, app]; omega) | (simp only [lenOf]; omega))) | (rw [idxA_at]; rotate_left; (first | omega | (simp [lenOf, app]; omega) | (simp only [lenOf]; omega))) | (rw [wr_up]; rotate_left; (first | omega | (simp [lenOf, app]; omega) | (simp only [lenOf]; omega))) | ((first | rw [drop_cI] | rw [drop_cE] | rw [drop_cS] | rw [drop_cP] | rw [drop_cR]); rotate_left; assumption)); try simp only [go_sem, ↓reduceIte, Nat.reduceAdd, Nat.reduceEqDiff, Nat.reduceLT, Nat.reduceLeDiff, Nat.reduceBEq, Int.reduceEq, Int.reduceLT, Int.reduceLE]))
      · by_cases hk : k < lenOf S.es
        · have a1 := fun N O => appHs_at (f := cE) (sz := 4) (fun _ => rfl) 32 N O p q S.es hes (by omega) (by omega)
          have a2 := fun N O => appHs_at (f := cS) (sz := 3) (fun _ => rfl) 24 N O p q S.ss hss (by omega) (by omega)
          have hk1 : Int.ofNat k < Int.ofNat (lenOf S.es) := by simp only [Int.ofNat_eq_natCast]; omega
          obtain ⟨⟨f, g, ⟨lo, hi⟩⟩, he⟩ : ∃ e, S.es[k]? = some e := ⟨_, List.getElem?_eq_getElem hk⟩
          have hoe := oe _ (List.mem_of_getElem? he)
          simp only at hoe
          have w1 : wr .i64 (Int.sub lo (Int.ofNat m1)) = lo - Int.ofNat m1 := by simp only [Int.ofNat_eq_natCast]; rw [fold_sub, wr_in] <;> omega
          have w2 : wr .i64 (Int.add hi (Int.ofNat m2)) = hi + Int.ofNat m2 := by simp only [Int.ofNat_eq_natCast]; rw [fold_add, wr_in] <;> omega
          have hW := wider_ent (r := ⟨lo - Int.ofNat m1, hi + Int.ofNat m2⟩) he (by simp only [Int.ofNat_eq_natCast]; omega) (by simp only [Int.ofNat_eq_natCast]; omega)
          simp only at hW
          have he1 : (S.es.set k ⟨f, g, ⟨lo - Int.ofNat m1, hi⟩⟩)[k]? = some ⟨f, g, ⟨lo - Int.ofNat m1, hi⟩⟩ := by rw [List.getElem?_set_self hk]
          have hee : (S.es.set k ⟨f, g, ⟨lo - Int.ofNat m1, hi⟩⟩).set k ⟨f, g, ⟨lo - Int.ofNat m1, hi + Int.ofNat m2⟩⟩ = S.es.set k ⟨f, g, ⟨lo - Int.ofNat m1, hi + Int.ofNat m2⟩⟩ := List.set_set ..
          have hix : idxA (i64 (Int.ofNat k)) (lenOf S.es) = some k := idxA_at hk
          have n1 : nthO (some (.cells (cellsOf cE S.es))) (na (na (na 0 (Nat.mul k 4)) 2) 0) = some (i64 lo) := nth_cells (f := cE) (sz := 4) (fun _ => rfl) (j := 2) he rfl (by simp [na])
          have n2 : nthO (some (.cells (cellsOf cE S.es))) (na (na (na 0 (Nat.mul k 4)) 2) 1) = some (i64 hi) := nth_cells (f := cE) (sz := 4) (fun _ => rfl) (j := 3) he rfl (by simp [na])
          have s1 : ∀ s b, storeP (some (.cells (cellsOf cE S.es))) s b (na (na (na 0 (Nat.mul k 4)) 2) 0) [i64 (lo - Int.ofNat m1)] = some (s.set b (.cells (cellsOf cE (S.es.set k ⟨f, g, ⟨lo - Int.ofNat m1, hi⟩⟩)))) := fun s b => store_cells (f := cE) (sz := 4) (fun _ => rfl) (j := 2) (b := ⟨f, g, ⟨lo - Int.ofNat m1, hi⟩⟩) (v := i64 (lo - Int.ofNat m1)) he rfl (by omega) (off := (na (na (na 0 (Nat.mul k 4)) 2) 0)) (by simp [na]) s b
          have s2 : ∀ s b, storeP (some (.cells (cellsOf cE (S.es.set k ⟨f, g, ⟨lo - Int.ofNat m1, hi⟩⟩)))) s b (na (na (na 0 (Nat.mul k 4)) 2) 1) [i64 (hi + Int.ofNat m2)] = some (s.set b (.cells (cellsOf cE (S.es.set k ⟨f, g, ⟨lo - Int.ofNat m1, hi + Int.ofNat m2⟩⟩)))) := fun s b => by
            have h := store_cells (f := cE) (sz := 4) (fun _ => rfl) (j := 3) (b := ⟨f, g, ⟨lo - Int.ofNat m1, hi + Int.ofNat m2⟩⟩) (v := i64 (hi + Int.ofNat m2)) he1 rfl (by omega) (off := (na (na (na 0 (Nat.mul k 4)) 2) 1)) (by simp [na]) s b
            rwa [hee] at h
          obtain ⟨X, hX⟩ : ∃ X : Slate, X = ⟨S.women, S.es.set k ⟨f, g, ⟨lo - Int.ofNat m1, hi + Int.ofNat m2⟩⟩, S.ss⟩ := ⟨_, rfl⟩
          obtain ⟨B, hB⟩ : ∃ B, B = cellsOf cE (S.es.set k ⟨f, g, ⟨lo - Int.ofNat m1, hi + Int.ofNat m2⟩⟩) := ⟨_, rfl⟩
          rw [← hB] at s2
          have hI : IceS ⟨(na (na (na (na N 1) 1) 1) 1), .cells [i64 0, i64 0] :: .cells (cellsOf cS S.ss) :: .cells B :: .cells [i64 S.women, .hsl (na N 1) 0 (lenOf S.es) none, .hsl (na (na N 1) 1) 0 (lenOf S.ss) none] :: O, p, q⟩ (.agg [i64 S.women, .hsl (na N 1) 0 (lenOf S.es) none, .hsl (na (na N 1) 1) 0 (lenOf S.ss) none]) X := by
            rw [hX]
            exact iceS_mk (by have h0 := fz_hsl (s := ⟨(na (na (na (na N 1) 1) 1) 1), .cells [i64 0, i64 0] :: .cells (cellsOf cS S.ss) :: .cells B :: .cells [i64 S.women, .hsl (na N 1) 0 (lenOf S.es) none, .hsl (na (na N 1) 1) 0 (lenOf S.ss) none] :: O, p, q⟩) (f := cE) (fz_cE 5 _) (b := (na N 1)) (l := S.es.set k ⟨f, g, ⟨lo - Int.ofNat m1, hi + Int.ofNat m2⟩⟩) (by rw [← hB]; exact get_4_1 ..); rwa [show lenOf (S.es.set k ⟨f, g, ⟨lo - Int.ofNat m1, hi + Int.ofNat m2⟩⟩) = lenOf S.es by simp [lenOf]] at h0) (fz_hsl (s := ⟨(na (na (na (na N 1) 1) 1) 1), .cells [i64 0, i64 0] :: .cells (cellsOf cS S.ss) :: .cells B :: .cells [i64 S.women, .hsl (na N 1) 0 (lenOf S.es) none, .hsl (na (na N 1) 1) 0 (lenOf S.ss) none] :: O, p, q⟩) (f := cS) (fz_cS 5 _) (b := (na (na N 1) 1)) (l := S.ss) (get_4_2 ..))
          have hJ : IceS ⟨(na (na (na (na N 1) 1) 1) 1), .cells [i64 0, i64 0] :: .cells (cellsOf cS S.ss) :: .cells B :: .cells [i64 S.women, .hsl (na N 1) 0 (lenOf S.es) none, .hsl (na (na N 1) 1) 0 (lenOf S.ss) none] :: O, p, q⟩ (vSl S) S := iceS_self _ S
          have j46 := k46i hI
          rw [← hX] at hW
          cases hY : readyS X with
          | false =>
            rw [hY] at j46
            clear hW hI hJ hX h24 h41 oe osy hc hT hG hz' hB hee he1
            obtain ⟨w, es, ss⟩ := S
            simp only at a1 a2 eA hz hr h46 n1 n2 s1 s2 hix j46 hk1
            (try simp only [go_sem, ↓reduceIte, Nat.reduceAdd, Nat.reduceEqDiff, Nat.reduceLT, Nat.reduceLeDiff, Nat.reduceBEq, Int.reduceEq, Int.reduceLT, Int.reduceLE]); (repeat ((first | simp only [h46] | rw [eA] | rw [eq_n hz] | rw [a1] | rw [a2] | rw [eA] | rw [hwt] | rw [hr] | rw [lt_y hk1] | rw [hix] | rw [n1] | rw [n2] | rw [hwu] | rw [d1] | rw [d2] | rw [d3] | rw [w1] | rw [w2] | rw [s1] | rw [s2] | rw [j46] | simp only [h22] | (rw [lt_yes]; rotate_left; (first | omega | (simp [lenOf, app]; omega) | (simp only [lenOf]; omega))) | (rw [lt_no]; rotate_left; (first | omega | (simp [lenOf, app]; omega) | (simp only [lenOf]; omega))) | (rw [idxA_at]; rotate_left; (first | omega | (simp [lenOf, app]; omega) | (simp only [lenOf]; omega))) | (rw [wr_up]; rotate_left; (first | omega | (simp [lenOf, app]; omega) | (simp only [lenOf]; omega))) | ((first | rw [drop_cI] | rw [drop_cE] | rw [drop_cS] | rw [drop_cP] | rw [drop_cR]); rotate_left; assumption)); try simp only [go_sem, ↓reduceIte, Nat.reduceAdd, Nat.reduceEqDiff, Nat.reduceLT, Nat.reduceLeDiff, Nat.reduceBEq, Int.reduceEq, Int.reduceLT, Int.reduceLE]))
          | true =>
            rw [hY] at j46
            have hcX := (ready_inv hY).1
            have gX := good_of_check hcX
            have x6 := gX.e6
            have x5 := gX.s5
            obtain ⟨v1, v2⟩ := wider_law hc hcX hW
            have j24 := k24i hI (by omega) (by omega)
            have g41 := fun s => k41 X s
            rw [hcX] at g41
            have j57 := fun h => k57i hJ hI (v2 h)
            have hle : ¬ Int.ofNat (lenOf (leaveL S)) < Int.ofNat (lenOf (leaveL X)) := by unfold lenOf; simp only [Int.ofNat_eq_natCast]; omega
            generalize leaveL X = L2 at g41 v1 v2 hle
            generalize leaveL S = L1 at h41 v1 v2 hle j57
            clear hW hI hJ hX oe osy hc hT hG hz' hB hee he1 hcX gX hY x6 x5 v2
            obtain ⟨w, es, ss⟩ := S
            obtain ⟨wx, ex, sx⟩ := X
            simp only at a1 a2 eA hz hr h46 n1 n2 s1 s2 hix j46 j24 j57 hk1 h24
            by_cases h0 : L1.length = 0
            · have hp : ¬ (0 : Int) < Int.ofNat (lenOf L1) := by unfold lenOf; rw [h0]; decide
              have j57 := j57 h0
              (try simp only [go_sem, ↓reduceIte, Nat.reduceAdd, Nat.reduceEqDiff, Nat.reduceLT, Nat.reduceLeDiff, Nat.reduceBEq, Int.reduceEq, Int.reduceLT, Int.reduceLE]); (repeat ((first | simp only [h46] | rw [eA] | rw [eq_n hz] | rw [a1] | rw [a2] | rw [eA] | rw [hwt] | rw [hr] | rw [lt_y hk1] | rw [hix] | rw [n1] | rw [n2] | rw [hwu] | rw [d1] | rw [d2] | rw [d3] | rw [w1] | rw [w2] | rw [s1] | rw [s2] | rw [j46] | simp only [h24] | simp only [h41] | rw [j24] | simp only [g41] | rw [lt_n hle] | rw [lt_n hp] | rw [j57] | simp only [h22] | (rw [lt_yes]; rotate_left; (first | omega | (simp [lenOf, app]; omega) | (simp only [lenOf]; omega))) | (rw [lt_no]; rotate_left; (first | omega | (simp [lenOf, app]; omega) | (simp only [lenOf]; omega))) | (rw [idxA_at]; rotate_left; (first | omega | (simp [lenOf, app]; omega) | (simp only [lenOf]; omega))) | (rw [wr_up]; rotate_left; (first | omega | (simp [lenOf, app]; omega) | (simp only [lenOf]; omega))) | ((first | rw [drop_cI] | rw [drop_cE] | rw [drop_cS] | rw [drop_cP] | rw [drop_cR]); rotate_left; assumption)); try simp only [go_sem, ↓reduceIte, Nat.reduceAdd, Nat.reduceEqDiff, Nat.reduceLT, Nat.reduceLeDiff, Nat.reduceBEq, Int.reduceEq, Int.reduceLT, Int.reduceLE]))
            · have hp : (0 : Int) < Int.ofNat (lenOf L1) := by unfold lenOf; simp only [Int.ofNat_eq_natCast]; omega
              (try simp only [go_sem, ↓reduceIte, Nat.reduceAdd, Nat.reduceEqDiff, Nat.reduceLT, Nat.reduceLeDiff, Nat.reduceBEq, Int.reduceEq, Int.reduceLT, Int.reduceLE]); (repeat ((first | simp only [h46] | rw [eA] | rw [eq_n hz] | rw [a1] | rw [a2] | rw [eA] | rw [hwt] | rw [hr] | rw [lt_y hk1] | rw [hix] | rw [n1] | rw [n2] | rw [hwu] | rw [d1] | rw [d2] | rw [d3] | rw [w1] | rw [w2] | rw [s1] | rw [s2] | rw [j46] | simp only [h24] | simp only [h41] | rw [j24] | simp only [g41] | rw [lt_n hle] | rw [lt_y hp] | simp only [h22] | (rw [lt_yes]; rotate_left; (first | omega | (simp [lenOf, app]; omega) | (simp only [lenOf]; omega))) | (rw [lt_no]; rotate_left; (first | omega | (simp [lenOf, app]; omega) | (simp only [lenOf]; omega))) | (rw [idxA_at]; rotate_left; (first | omega | (simp [lenOf, app]; omega) | (simp only [lenOf]; omega))) | (rw [wr_up]; rotate_left; (first | omega | (simp [lenOf, app]; omega) | (simp only [lenOf]; omega))) | ((first | rw [drop_cI] | rw [drop_cE] | rw [drop_cS] | rw [drop_cP] | rw [drop_cR]); rotate_left; assumption)); try simp only [go_sem, ↓reduceIte, Nat.reduceAdd, Nat.reduceEqDiff, Nat.reduceLT, Nat.reduceLeDiff, Nat.reduceBEq, Int.reduceEq, Int.reduceLT, Int.reduceLE]))
        · have a1 := fun N O => appHs_at (f := cE) (sz := 4) (fun _ => rfl) 32 N O p q S.es hes (by omega) (by omega)
          have a2 := fun N O => appHs_at (f := cS) (sz := 3) (fun _ => rfl) 24 N O p q S.ss hss (by omega) (by omega)
          have hk1 : ¬ Int.ofNat k < Int.ofNat (lenOf S.es) := by simp only [Int.ofNat_eq_natCast]; omega
          have hsub : wr .i64 (Int.sub (Int.ofNat k) (Int.ofNat (lenOf S.es))) = Int.ofNat (k - lenOf S.es) := by
            unfold lenOf at hk hb ⊢
            simp only [Int.ofNat_eq_natCast]; rw [fold_sub, wr_in] <;> omega
          have hk2 : k - lenOf S.es < lenOf S.ss := by omega
          generalize k - lenOf S.es = j at hsub hk2
          obtain ⟨⟨f, ⟨lo, hi⟩⟩, he⟩ : ∃ e, S.ss[j]? = some e := ⟨_, List.getElem?_eq_getElem hk2⟩
          have hoe := osy _ (List.mem_of_getElem? he)
          simp only [sayOk, Bool.and_eq_true, between_iff] at hoe
          have w1 : wr .i64 (Int.sub lo (Int.ofNat m1)) = lo - Int.ofNat m1 := by simp only [Int.ofNat_eq_natCast]; rw [fold_sub, wr_in] <;> omega
          have w2 : wr .i64 (Int.add hi (Int.ofNat m2)) = hi + Int.ofNat m2 := by simp only [Int.ofNat_eq_natCast]; rw [fold_add, wr_in] <;> omega
          have hW := wider_say (r := ⟨lo - Int.ofNat m1, hi + Int.ofNat m2⟩) he (by simp only [Int.ofNat_eq_natCast]; omega) (by simp only [Int.ofNat_eq_natCast]; omega)
          simp only at hW
          have he1 : (S.ss.set j ⟨f, ⟨lo - Int.ofNat m1, hi⟩⟩)[j]? = some ⟨f, ⟨lo - Int.ofNat m1, hi⟩⟩ := by rw [List.getElem?_set_self hk2]
          have hee : (S.ss.set j ⟨f, ⟨lo - Int.ofNat m1, hi⟩⟩).set j ⟨f, ⟨lo - Int.ofNat m1, hi + Int.ofNat m2⟩⟩ = S.ss.set j ⟨f, ⟨lo - Int.ofNat m1, hi + Int.ofNat m2⟩⟩ := List.set_set ..
          have hix : idxA (i64 (Int.ofNat j)) (lenOf S.ss) = some j := idxA_at hk2
          have n1 : nthO (some (.cells (cellsOf cS S.ss))) (na (na (na 0 (Nat.mul j 3)) 1) 0) = some (i64 lo) := nth_cells (f := cS) (sz := 3) (fun _ => rfl) (j := 1) he rfl (by simp [na])
          have n2 : nthO (some (.cells (cellsOf cS S.ss))) (na (na (na 0 (Nat.mul j 3)) 1) 1) = some (i64 hi) := nth_cells (f := cS) (sz := 3) (fun _ => rfl) (j := 2) he rfl (by simp [na])
          have s1 : ∀ s b, storeP (some (.cells (cellsOf cS S.ss))) s b (na (na (na 0 (Nat.mul j 3)) 1) 0) [i64 (lo - Int.ofNat m1)] = some (s.set b (.cells (cellsOf cS (S.ss.set j ⟨f, ⟨lo - Int.ofNat m1, hi⟩⟩)))) := fun s b => store_cells (f := cS) (sz := 3) (fun _ => rfl) (j := 1) (b := ⟨f, ⟨lo - Int.ofNat m1, hi⟩⟩) (v := i64 (lo - Int.ofNat m1)) he rfl (by omega) (off := (na (na (na 0 (Nat.mul j 3)) 1) 0)) (by simp [na]) s b
          have s2 : ∀ s b, storeP (some (.cells (cellsOf cS (S.ss.set j ⟨f, ⟨lo - Int.ofNat m1, hi⟩⟩)))) s b (na (na (na 0 (Nat.mul j 3)) 1) 1) [i64 (hi + Int.ofNat m2)] = some (s.set b (.cells (cellsOf cS (S.ss.set j ⟨f, ⟨lo - Int.ofNat m1, hi + Int.ofNat m2⟩⟩)))) := fun s b => by
            have h := store_cells (f := cS) (sz := 3) (fun _ => rfl) (j := 2) (b := ⟨f, ⟨lo - Int.ofNat m1, hi + Int.ofNat m2⟩⟩) (v := i64 (hi + Int.ofNat m2)) he1 rfl (by omega) (off := (na (na (na 0 (Nat.mul j 3)) 1) 1)) (by simp [na]) s b
            rwa [hee] at h
          obtain ⟨X, hX⟩ : ∃ X : Slate, X = ⟨S.women, S.es, S.ss.set j ⟨f, ⟨lo - Int.ofNat m1, hi + Int.ofNat m2⟩⟩⟩ := ⟨_, rfl⟩
          obtain ⟨B, hB⟩ : ∃ B, B = cellsOf cS (S.ss.set j ⟨f, ⟨lo - Int.ofNat m1, hi + Int.ofNat m2⟩⟩) := ⟨_, rfl⟩
          rw [← hB] at s2
          have hI : IceS ⟨(na (na (na (na N 1) 1) 1) 1), .cells [i64 0, i64 0] :: .cells B :: .cells (cellsOf cE S.es) :: .cells [i64 S.women, .hsl (na N 1) 0 (lenOf S.es) none, .hsl (na (na N 1) 1) 0 (lenOf S.ss) none] :: O, p, q⟩ (.agg [i64 S.women, .hsl (na N 1) 0 (lenOf S.es) none, .hsl (na (na N 1) 1) 0 (lenOf S.ss) none]) X := by
            rw [hX]
            exact iceS_mk (fz_hsl (s := ⟨(na (na (na (na N 1) 1) 1) 1), .cells [i64 0, i64 0] :: .cells B :: .cells (cellsOf cE S.es) :: .cells [i64 S.women, .hsl (na N 1) 0 (lenOf S.es) none, .hsl (na (na N 1) 1) 0 (lenOf S.ss) none] :: O, p, q⟩) (f := cE) (fz_cE 5 _) (b := (na N 1)) (l := S.es) (get_4_1 ..)) (by have h0 := fz_hsl (s := ⟨(na (na (na (na N 1) 1) 1) 1), .cells [i64 0, i64 0] :: .cells B :: .cells (cellsOf cE S.es) :: .cells [i64 S.women, .hsl (na N 1) 0 (lenOf S.es) none, .hsl (na (na N 1) 1) 0 (lenOf S.ss) none] :: O, p, q⟩) (f := cS) (fz_cS 5 _) (b := (na (na N 1) 1)) (l := S.ss.set j ⟨f, ⟨lo - Int.ofNat m1, hi + Int.ofNat m2⟩⟩) (by rw [← hB]; exact get_4_2 ..); rwa [show lenOf (S.ss.set j ⟨f, ⟨lo - Int.ofNat m1, hi + Int.ofNat m2⟩⟩) = lenOf S.ss by simp [lenOf]] at h0)
          have hJ : IceS ⟨(na (na (na (na N 1) 1) 1) 1), .cells [i64 0, i64 0] :: .cells B :: .cells (cellsOf cE S.es) :: .cells [i64 S.women, .hsl (na N 1) 0 (lenOf S.es) none, .hsl (na (na N 1) 1) 0 (lenOf S.ss) none] :: O, p, q⟩ (vSl S) S := iceS_self _ S
          have j46 := k46i hI
          rw [← hX] at hW
          cases hY : readyS X with
          | false =>
            rw [hY] at j46
            clear hW hI hJ hX h24 h41 oe osy hc hT hG hz' hB hee he1
            obtain ⟨w, es, ss⟩ := S
            simp only at a1 a2 eA hz hr h46 n1 n2 s1 s2 hix j46 hk1 hsub
            (try simp only [go_sem, ↓reduceIte, Nat.reduceAdd, Nat.reduceEqDiff, Nat.reduceLT, Nat.reduceLeDiff, Nat.reduceBEq, Int.reduceEq, Int.reduceLT, Int.reduceLE]); (repeat ((first | simp only [h46] | rw [eA] | rw [eq_n hz] | rw [a1] | rw [a2] | rw [eA] | rw [hwt] | rw [hr] | rw [lt_n hk1] | rw [hsub] | rw [hix] | rw [n1] | rw [n2] | rw [hwu] | rw [d1] | rw [d2] | rw [d3] | rw [w1] | rw [w2] | rw [s1] | rw [s2] | rw [j46] | simp only [h22] | (rw [lt_yes]; rotate_left; (first | omega | (simp [lenOf, app]; omega) | (simp only [lenOf]; omega))) | (rw [lt_no]; rotate_left; (first | omega | (simp [lenOf, app]; omega) | (simp only [lenOf]; omega))) | (rw [idxA_at]; rotate_left; (first | omega | (simp [lenOf, app]; omega) | (simp only [lenOf]; omega))) | (rw [wr_up]; rotate_left; (first | omega | (simp [lenOf, app]; omega) | (simp only [lenOf]; omega))) | ((first | rw [drop_cI] | rw [drop_cE] | rw [drop_cS] | rw [drop_cP] | rw [drop_cR]); rotate_left; assumption)); try simp only [go_sem, ↓reduceIte, Nat.reduceAdd, Nat.reduceEqDiff, Nat.reduceLT, Nat.reduceLeDiff, Nat.reduceBEq, Int.reduceEq, Int.reduceLT, Int.reduceLE]))
          | true =>
            rw [hY] at j46
            have hcX := (ready_inv hY).1
            have gX := good_of_check hcX
            have x6 := gX.e6
            have x5 := gX.s5
            obtain ⟨v1, v2⟩ := wider_law hc hcX hW
            have j24 := k24i hI (by omega) (by omega)
            have g41 := fun s => k41 X s
            rw [hcX] at g41
            have j57 := fun h => k57i hJ hI (v2 h)
            have hle : ¬ Int.ofNat (lenOf (leaveL S)) < Int.ofNat (lenOf (leaveL X)) := by unfold lenOf; simp only [Int.ofNat_eq_natCast]; omega
            generalize leaveL X = L2 at g41 v1 v2 hle
            generalize leaveL S = L1 at h41 v1 v2 hle j57
            clear hW hI hJ hX oe osy hc hT hG hz' hB hee he1 hcX gX hY x6 x5 v2
            obtain ⟨w, es, ss⟩ := S
            obtain ⟨wx, ex, sx⟩ := X
            simp only at a1 a2 eA hz hr h46 n1 n2 s1 s2 hix j46 j24 j57 hk1 h24 hsub
            by_cases h0 : L1.length = 0
            · have hp : ¬ (0 : Int) < Int.ofNat (lenOf L1) := by unfold lenOf; rw [h0]; decide
              have j57 := j57 h0
              (try simp only [go_sem, ↓reduceIte, Nat.reduceAdd, Nat.reduceEqDiff, Nat.reduceLT, Nat.reduceLeDiff, Nat.reduceBEq, Int.reduceEq, Int.reduceLT, Int.reduceLE]); (repeat ((first | simp only [h46] | rw [eA] | rw [eq_n hz] | rw [a1] | rw [a2] | rw [eA] | rw [hwt] | rw [hr] | rw [lt_n hk1] | rw [hsub] | rw [hix] | rw [n1] | rw [n2] | rw [hwu] | rw [d1] | rw [d2] | rw [d3] | rw [w1] | rw [w2] | rw [s1] | rw [s2] | rw [j46] | simp only [h24] | simp only [h41] | rw [j24] | simp only [g41] | rw [lt_n hle] | rw [lt_n hp] | rw [j57] | simp only [h22] | (rw [lt_yes]; rotate_left; (first | omega | (simp [lenOf, app]; omega) | (simp only [lenOf]; omega))) | (rw [lt_no]; rotate_left; (first | omega | (simp [lenOf, app]; omega) | (simp only [lenOf]; omega))) | (rw [idxA_at]; rotate_left; (first | omega | (simp [lenOf, app]; omega) | (simp only [lenOf]; omega))) | (rw [wr_up]; rotate_left; (first | omega | (simp [lenOf, app]; omega) | (simp only [lenOf]; omega))) | ((first | rw [drop_cI] | rw [drop_cE] | rw [drop_cS] | rw [drop_cP] | rw [drop_cR]); rotate_left; assumption)); try simp only [go_sem, ↓reduceIte, Nat.reduceAdd, Nat.reduceEqDiff, Nat.reduceLT, Nat.reduceLeDiff, Nat.reduceBEq, Int.reduceEq, Int.reduceLT, Int.reduceLE]))
            · have hp : (0 : Int) < Int.ofNat (lenOf L1) := by unfold lenOf; simp only [Int.ofNat_eq_natCast]; omega
              (try simp only [go_sem, ↓reduceIte, Nat.reduceAdd, Nat.reduceEqDiff, Nat.reduceLT, Nat.reduceLeDiff, Nat.reduceBEq, Int.reduceEq, Int.reduceLT, Int.reduceLE]); (repeat ((first | simp only [h46] | rw [eA] | rw [eq_n hz] | rw [a1] | rw [a2] | rw [eA] | rw [hwt] | rw [hr] | rw [lt_n hk1] | rw [hsub] | rw [hix] | rw [n1] | rw [n2] | rw [hwu] | rw [d1] | rw [d2] | rw [d3] | rw [w1] | rw [w2] | rw [s1] | rw [s2] | rw [j46] | simp only [h24] | simp only [h41] | rw [j24] | simp only [g41] | rw [lt_n hle] | rw [lt_y hp] | simp only [h22] | (rw [lt_yes]; rotate_left; (first | omega | (simp [lenOf, app]; omega) | (simp only [lenOf]; omega))) | (rw [lt_no]; rotate_left; (first | omega | (simp [lenOf, app]; omega) | (simp only [lenOf]; omega))) | (rw [idxA_at]; rotate_left; (first | omega | (simp [lenOf, app]; omega) | (simp only [lenOf]; omega))) | (rw [wr_up]; rotate_left; (first | omega | (simp [lenOf, app]; omega) | (simp only [lenOf]; omega))) | ((first | rw [drop_cI] | rw [drop_cE] | rw [drop_cS] | rw [drop_cP] | rw [drop_cR]); rotate_left; assumption)); try simp only [go_sem, ↓reduceIte, Nat.reduceAdd, Nat.reduceEqDiff, Nat.reduceLT, Nat.reduceLeDiff, Nat.reduceBEq, Int.reduceEq, Int.reduceLT, Int.reduceLE]))
theorem Try_own : ownKnob Try.prog.godebug = none := by kernel_rfl
theorem wider_lifted (os : Os) (started : os.Started) (H : Type) (enc : TypeId × Value → H) :
    ReturnsInHanded {} Try.checked os 12 .any (Ytlhfeiacigmliaa.Rows.soapWiderSpec.pre6 enc Try.prog Try.f12 Ytlhfeiacigmliaa.Rows.soapWiderRow.domain false) (Ytlhfeiacigmliaa.Rows.soapWiderSpec.post enc Try.prog Try.f12 false true false false) := by
  refine returnsInHanded_of_change (C := Try.checked) Try_own started (by kernel_rfl) Try.func12
    (ChangeSpec.witness6 (enc := enc) (C := Try.checked) false ⟨#[], #[.agg #[.int .i64 0, .slice none 0 0, .slice none 0 0], .int .u8 0, .int .u8 0], []⟩ 8 (by kernel_rfl) (by kernel_rfl) (by kernel_rfl) (by kernel_rfl)) ?_
  intro W base args ds gs before hval0 hW hcnd _
  have hval : ∀ (j : Nat) t v, Try.f12.params[j]? = some t → args[j]? = some v → Value.okWide Try.prog W .any base t v := hval0
  have hW' := hW
  obtain ⟨p, q, hA0, hV, rfl, hfz, hnd⟩ := hW
  have hA : DataW.TrodAll enc Try.prog W 0 (fun _ => true) true Try.f12.params.toList args.toList ds p := hA0
  rw [Try.params12] at hA hval
  obtain ⟨v0, v1, v2, d0, d1, d2, p0, p1, p2, rfl, rfl, hp, h0, h1, h2⟩ := trodAll_three hA
  obtain ⟨rfl, rfl⟩ := trodVars_none hV
  obtain ⟨x0, r0⟩ := rel_slate (hval 0 25 v0 rfl rfl) h0
  obtain ⟨x1, l1, r1⟩ := rel_u8 (hval 1 5 v1 rfl rfl) h1
  obtain ⟨x2, l2, r2⟩ := rel_u8 (hval 2 5 v2 rfl rfl) h2
  refine (sound_lim tbl_ok (k12 x0 x1 l1 x2 l2 St.empty) (sim0 Try.prog W) (args' := #[v0, v1, v2]) ⟨v0, [v1, v2], rfl, r0, ⟨v1, [v2], rfl, r1, ⟨v2, [], rfl, r2, rfl⟩⟩⟩).mono fun e W' he => ?_
  obtain ⟨v', ρ', he, hv, _, hF⟩ := he
  subst he
  have hv : v' = .bool true := hv
  subst hv
  exact ⟨_, rfl, shut_true hW' rfl rfl (by rw [Try.params12]; intro t ht; simp at ht; rcases ht with rfl | rfl | rfl <;> exact ⟨by kernel_rfl, of_decide_eq_true (by kernel_rfl)⟩) rfl rfl rfl hF⟩
theorem wider_holds : Ytlhfeiacigmliaa.Rows.SoapWiderSaid :=
  OpenClaim.holds_of_wide 12 Try.f12 rfl rfl rfl rfl rfl rfl rfl ⟨rfl, rfl, rfl, rfl, rfl⟩ rfl rfl rfl rfl rfl (by kernel_rfl) Try.func12 (by kernel_rfl)
    (of_decide_eq_true (by kernel_rfl)) (by unfold Func.isWrapper; first | (rw [if_pos (by decide +kernel)]; kernel_rfl) | (rw [if_neg (by decide +kernel)]; exact ⟨rfl, rfl⟩))
    (fun os started H enc _ => wider_lifted os started H enc)
#print axioms wider_holds
end Go.Proofs.Ytlhfeiacigmliaa
