/- The law SoapLost answers true for every slate and number: with any ounces all women together are owed 0; after the payments that are returned nobody is owed anything. -/
import Derived.Test.YtlhfeiacigmliaaPartJ
set_option linter.all false
namespace Go.Proofs.Ytlhfeiacigmliaa
open Go Go.ChangeShapes Go.RowKit
set_option maxRecDepth 100000
set_option maxHeartbeats 4000000

theorem lim_norms2 {k sz : Nat} {F : AFun} {args args' : List AVal} (h : tbl k = some F) (hg : F.gc = some sz) (he : norms args = norms args') (s : St) : lim tbl (.call k args) s = lim tbl (.call k args') s := by
  have hl : args.length = args'.length := by have := congrArg List.length he; rwa [norms_length, norms_length] at this
  rw [lim_call h, lim_call h, hg, frameV_some, frameV_some, he]
def sumI : List Int → Int
  | [] => 0
  | a :: l => a + sumI l
theorem l18_0 (x t5 tP tl : AVal) (A : List Int) (hA : A.length ≤ 6) (hb : ∀ a ∈ A, -240 ≤ a ∧ a ≤ 240) (s : St) : ∀ (k i : Nat) (sum : Int), i + k = A.length → -(240 * (i : Int)) ≤ sum → sum ≤ 240 * (i : Int) →
    lim tbl (.loop a18_l0 133 ⟨[2, 5, 6, 8, 10, 11, 12], [2, 5, 8, 10, 11], []⟩ [x, t5, sl cI A, tP, i64 sum, tl, i64 (Int.ofNat i)]) s
      = some (.exit 0, [x, t5, tP, i64 (sum + sumI (A.drop i)), tl], s) := by
  intro k
  induction k with
  | zero =>
    intro i sum hi _ _
    rw [List.drop_eq_nil_of_le (by omega), sumI, Int.add_zero, lim_loop]
    obtain ⟨N, O, p, q⟩ := s
    (try simp only [go_sem, ↓reduceIte, Nat.reduceAdd, Nat.reduceEqDiff, Nat.reduceLT, Nat.reduceLeDiff, Nat.reduceBEq, Int.reduceEq, Int.reduceLT, Int.reduceLE]); (repeat ((first | (rw [lt_yes]; rotate_left; (first | omega | (simp [lenOf, app]; omega) | (simp only [lenOf]; omega))) | (rw [lt_no]; rotate_left; (first | omega | (simp [lenOf, app]; omega) | (simp only [lenOf]; omega))) | (rw [idxA_at]; rotate_left; (first | omega | (simp [lenOf, app]; omega) | (simp only [lenOf]; omega))) | (rw [wr_up]; rotate_left; (first | omega | (simp [lenOf, app]; omega) | (simp only [lenOf]; omega))) | ((first | rw [drop_cI] | rw [drop_cE] | rw [drop_cS] | rw [drop_cP] | rw [drop_cR]); rotate_left; assumption)); try simp only [go_sem, ↓reduceIte, Nat.reduceAdd, Nat.reduceEqDiff, Nat.reduceLT, Nat.reduceLeDiff, Nat.reduceBEq, Int.reduceEq, Int.reduceLT, Int.reduceLE]))
  | succ k ih =>
    intro i sum hi h1 h2
    have hlt : i < A.length := by omega
    obtain ⟨a, ha, hd⟩ := getElem_drop hlt
    have hba := hb a (List.mem_of_getElem? ha)
    have h' := ih (i + 1) (sum + a) (by omega) (by omega) (by omega)
    have hwr : wr .i64 (Int.add sum a) = sum + a := by rw [fold_add, wr_in] <;> omega
    have hda := drop_cI ha
    rw [hd, sumI, ← Int.add_assoc, lim_loop]
    obtain ⟨N, O, p, q⟩ := s
    generalize hR : some (_, _, _) = R at h' ⊢
    (try simp only [go_sem, ↓reduceIte, Nat.reduceAdd, Nat.reduceEqDiff, Nat.reduceLT, Nat.reduceLeDiff, Nat.reduceBEq, Int.reduceEq, Int.reduceLT, Int.reduceLE]); (repeat ((first | rw [hda] | rw [hwr] | (rw [lt_yes]; rotate_left; (first | omega | (simp [lenOf, app]; omega) | (simp only [lenOf]; omega))) | (rw [lt_no]; rotate_left; (first | omega | (simp [lenOf, app]; omega) | (simp only [lenOf]; omega))) | (rw [idxA_at]; rotate_left; (first | omega | (simp [lenOf, app]; omega) | (simp only [lenOf]; omega))) | (rw [wr_up]; rotate_left; (first | omega | (simp [lenOf, app]; omega) | (simp only [lenOf]; omega))) | ((first | rw [drop_cI] | rw [drop_cE] | rw [drop_cS] | rw [drop_cP] | rw [drop_cR]); rotate_left; assumption)); try simp only [go_sem, ↓reduceIte, Nat.reduceAdd, Nat.reduceEqDiff, Nat.reduceLT, Nat.reduceLeDiff, Nat.reduceBEq, Int.reduceEq, Int.reduceLT, Int.reduceLE]))
    exact h'
theorem l6_get2 {a : Nat → Int} {w j : Nat} (h : j < w) : (l6 a w)[j]? = some (a j) := by simp [l6, h]
theorem l6_set {a : Nat → Int} {n j : Nat} {v : Int} (h : j < n) : (l6 a n).set j v = l6 (put a j v) n := by
  apply List.ext_getElem
  · simp [l6]
  · intro i h1 h2
    simp only [List.getElem_set]
    simp only [l6, List.getElem_map, List.getElem_range, put]
    by_cases hji : j = i
    · subst hji; simp
    · rw [if_neg hji, if_neg (Ne.symm hji)]
theorem l18_1 (x t5 : AVal) (sum : Int) (n : Nat) (hn : n ≤ 6) (P : List Pay) (hl : P.length ≤ 6) (hW : ∀ y ∈ P, PayW n y) (N : Nat) (O : List AObj) (p : Nat) (q : Nat → Nat) : ∀ (k i : Nat) (a : Nat → Int), i + k = P.length → (∀ j, -(240 * ((i : Int) + 1)) ≤ a j ∧ a j ≤ 240 * ((i : Int) + 1)) →
    lim tbl (.loop a18_l1 133 ⟨[2, 5, 8, 10, 11, 13], [2, 5, 8, 10, 11], []⟩ [x, t5, sl cP P, i64 sum, .hsl N 0 n none, i64 (Int.ofNat i)]) ⟨na N 1, .cells (cellsOf cI (l6 a n)) :: O, p, q⟩
      = some (.exit 2, [x, t5, sl cP P, i64 sum, .hsl N 0 n none], ⟨na N 1, .cells (cellsOf cI (l6 (fun j => a j + paysD (P.drop i) j) n)) :: O, p, q⟩) := by
  intro k
  induction k with
  | zero =>
    intro i a hi _
    rw [List.drop_eq_nil_of_le (by omega), lim_loop]
    have : (fun j => a j + paysD [] j) = a := by funext j; simp [paysD]
    rw [this]
    (try simp only [go_sem, ↓reduceIte, Nat.reduceAdd, Nat.reduceEqDiff, Nat.reduceLT, Nat.reduceLeDiff, Nat.reduceBEq, Int.reduceEq, Int.reduceLT, Int.reduceLE]); (repeat ((first | (rw [lt_yes]; rotate_left; (first | omega | (simp [lenOf, app]; omega) | (simp only [lenOf]; omega))) | (rw [lt_no]; rotate_left; (first | omega | (simp [lenOf, app]; omega) | (simp only [lenOf]; omega))) | (rw [idxA_at]; rotate_left; (first | omega | (simp [lenOf, app]; omega) | (simp only [lenOf]; omega))) | (rw [wr_up]; rotate_left; (first | omega | (simp [lenOf, app]; omega) | (simp only [lenOf]; omega))) | ((first | rw [drop_cI] | rw [drop_cE] | rw [drop_cS] | rw [drop_cP] | rw [drop_cR]); rotate_left; assumption)); try simp only [go_sem, ↓reduceIte, Nat.reduceAdd, Nat.reduceEqDiff, Nat.reduceLT, Nat.reduceLeDiff, Nat.reduceBEq, Int.reduceEq, Int.reduceLT, Int.reduceLE]))
  | succ k ih =>
    intro i a hi hb
    have hlt : i < P.length := by omega
    obtain ⟨y, hy, hd⟩ := getElem_drop hlt
    obtain ⟨f, t, hf, ht, hne, e1, e2, c1, c2⟩ := hW y (List.mem_of_getElem? hy)
    obtain ⟨yf, yt, z⟩ := y
    simp only at e1 e2 c1 c2
    subst e1 e2
    have hdy := drop_cP hy
    have hbf := hb f
    have hbt := hb t
    have h' := ih (i + 1) (put (put a f (a f + z)) t (a t - z)) (by omega) (fun j => by
      have := hb j
      unfold put
      split
      · omega
      · split <;> omega)
    have hfun : (fun j => put (put a f (a f + z)) t (a t - z) j + paysD (P.drop (i + 1)) j) = fun j => a j + paysD (P.drop i) j := by
      funext j
      rw [hd, paysD, payD_mk]
      unfold put dl
      by_cases h1 : j = t
      · subst h1; rw [if_pos rfl, if_neg hne, if_pos rfl]; omega
      · rw [if_neg h1, if_neg (Ne.symm h1)]
        by_cases h2 : j = f
        · subst h2; rw [if_pos rfl, if_pos rfl]; omega
        · rw [if_neg h2, if_neg (Ne.symm h2)]; omega
    rw [hfun, ← l6_set ht, ← l6_set hf] at h'
    have n1 := nthO_cI (l6_get2 (a := a) hf)
    have s1 := fun s b => storeP_cI (L := l6 a n) (i := f) (by rw [l6_len]; exact hf) s b (a f + z)
    have n2 : nthO (some (.cells (cellsOf cI ((l6 a n).set f (a f + z))))) (na 0 (Nat.mul t 1)) = some (i64 (a t)) := nthO_cI (by rw [List.getElem?_set_ne hne, l6_get2 ht])
    have s2 := fun s b => storeP_cI (L := (l6 a n).set f (a f + z)) (i := t) (by rw [List.length_set, l6_len]; exact ht) s b (a t - z)
    have w1 : wr .i64 (Int.add (a f) z) = a f + z := by rw [fold_add, wr_in] <;> omega
    have w2 : wr .i64 (Int.sub (a t) z) = a t - z := by rw [fold_sub, wr_in] <;> omega
    have i1 : idxA (i64 (Int.ofNat f)) n = some f := idxA_at hf
    have i2 : idxA (i64 (Int.ofNat t)) n = some t := idxA_at ht
    generalize (l6 a n).set f (a f + z) = A1 at h' s1 n2 s2
    generalize A1.set t (a t - z) = A2 at h' s2
    generalize l6 a n = A at n1 s1
    rw [lim_loop]
    generalize hR : some (_, _, _) = R at h' ⊢
    (try simp only [go_sem, ↓reduceIte, Nat.reduceAdd, Nat.reduceEqDiff, Nat.reduceLT, Nat.reduceLeDiff, Nat.reduceBEq, Int.reduceEq, Int.reduceLT, Int.reduceLE]); (repeat ((first | rw [hdy] | rw [i1] | rw [i2] | rw [n1] | rw [w1] | rw [s1] | rw [n2] | rw [w2] | rw [s2] | (rw [lt_yes]; rotate_left; (first | omega | (simp [lenOf, app]; omega) | (simp only [lenOf]; omega))) | (rw [lt_no]; rotate_left; (first | omega | (simp [lenOf, app]; omega) | (simp only [lenOf]; omega))) | (rw [idxA_at]; rotate_left; (first | omega | (simp [lenOf, app]; omega) | (simp only [lenOf]; omega))) | (rw [wr_up]; rotate_left; (first | omega | (simp [lenOf, app]; omega) | (simp only [lenOf]; omega))) | ((first | rw [drop_cI] | rw [drop_cE] | rw [drop_cS] | rw [drop_cP] | rw [drop_cR]); rotate_left; assumption)); try simp only [go_sem, ↓reduceIte, Nat.reduceAdd, Nat.reduceEqDiff, Nat.reduceLT, Nat.reduceLeDiff, Nat.reduceBEq, Int.reduceEq, Int.reduceLT, Int.reduceLE]))
    exact h'
theorem sumI_l6 {a : Nat → Int} {n : Nat} (hn : n ≤ 6) (hf : ∀ j, n ≤ j → a j = 0) (hz : ps a 63 = 0) : sumI (l6 a n) = 0 := by
  have h5 : ps a 63 = a 0 + a 1 + a 2 + a 3 + a 4 + a 5 := rfl
  rw [h5] at hz
  match n, hn with
  | 0, _ => rfl
  | 1, _ => have := hf 1 (by omega); have := hf 2 (by omega); have := hf 3 (by omega); have := hf 4 (by omega); have := hf 5 (by omega); show a 0 + 0 = 0; omega
  | 2, _ => have := hf 2 (by omega); have := hf 3 (by omega); have := hf 4 (by omega); have := hf 5 (by omega); show a 0 + (a 1 + 0) = 0; omega
  | 3, _ => have := hf 3 (by omega); have := hf 4 (by omega); have := hf 5 (by omega); show a 0 + (a 1 + (a 2 + 0)) = 0; omega
  | 4, _ => have := hf 4 (by omega); have := hf 5 (by omega); show a 0 + (a 1 + (a 2 + (a 3 + 0))) = 0; omega
  | 5, _ => have := hf 5 (by omega); show a 0 + (a 1 + (a 2 + (a 3 + (a 4 + 0)))) = 0; omega
  | 6, _ => show a 0 + (a 1 + (a 2 + (a 3 + (a 4 + (a 5 + 0))))) = 0; omega
theorem k18 (S : Slate) (t : Nat) (ht : t < 65536) (s : St) : lim tbl (.call 18 [vSl S, .int .u16 (Int.ofNat t)]) s = some (.ret, [.bool true], s) := by
  have h46 := fun s => k46 S s
  have h22 := fun s => k22 s
  rw [lim_call tbl_18]
  cases hT : readyS S with
  | false =>
    rw [hT] at h46
    obtain ⟨w, es, ss⟩ := S
    obtain ⟨N, O, p, q⟩ := s
    (try simp only [go_sem, ↓reduceIte, Nat.reduceAdd, Nat.reduceEqDiff, Nat.reduceLT, Nat.reduceLeDiff, Nat.reduceBEq, Int.reduceEq, Int.reduceLT, Int.reduceLE]); (repeat ((first | simp only [h46] | simp only [h22] | (rw [lt_yes]; rotate_left; (first | omega | (simp [lenOf, app]; omega) | (simp only [lenOf]; omega))) | (rw [lt_no]; rotate_left; (first | omega | (simp [lenOf, app]; omega) | (simp only [lenOf]; omega))) | (rw [idxA_at]; rotate_left; (first | omega | (simp [lenOf, app]; omega) | (simp only [lenOf]; omega))) | (rw [wr_up]; rotate_left; (first | omega | (simp [lenOf, app]; omega) | (simp only [lenOf]; omega))) | ((first | rw [drop_cI] | rw [drop_cE] | rw [drop_cS] | rw [drop_cP] | rw [drop_cR]); rotate_left; assumption)); try simp only [go_sem, ↓reduceIte, Nat.reduceAdd, Nat.reduceEqDiff, Nat.reduceLT, Nat.reduceLeDiff, Nat.reduceBEq, Int.reduceEq, Int.reduceLT, Int.reduceLE]))
  | true =>
    rw [hT] at h46
    obtain ⟨hc, hT1⟩ := ready_inv hT
    obtain ⟨hl1, hl2⟩ := thin_len hT1
    have hG := good_of_check hc
    have hw0 := hG.w0
    have hw6 := hG.w6
    obtain ⟨hm, hM⟩ := many_of_check hc
    have h51 := fun s => k51 S (by omega) s
    rw [hM] at h51
    have hpos := prodN_pos hG.oe
    have hwt : wr .i64 (Int.ofNat t) = Int.ofNat t := wr_nat (by omega)
    have hrem : remI (Int.ofNat t) (Int.ofNat (prodN S.es)) = some (i64 (Int.ofNat (bmod t (prodN S.es)))) := rem_at (by omega)
    have hbm : bmod t (prodN S.es) < prodN S.es := Nat.mod_lt _ hpos
    generalize prodN S.es = M at h51 hrem hm hbm
    have h50 := fun s => k50 S (bmod t M) (by omega) hG.oe (by omega) s
    have ha := nth_areOz hG.oe (bmod t M)
    generalize bmod t M = u at hrem h50 ha
    have hLl := areOz_len ha
    generalize nthRef S.es u = L at h50 ha hLl
    obtain ⟨hE, ho, hp⟩ := play_facts hc ha
    obtain ⟨p1, p2, p3, p4⟩ := settle_facts hc ha
    have p6 := settle_len hc ha
    have h240 := ow240 hc ha
    have hfar := ow_far hc ha
    have hzero := ow_zero hc ha
    have hAs : allB (payOk S.women) (settleP S L) = true := by
      unfold allB; rw [List.all_eq_true]
      exact fun x hx => (payOk_iff hG.w0 hG.w6).2 (p1 x hx)
    have h24 := fun s => k24 S (by omega) (by omega) s
    have h31 := fun s => k31 L (by omega) s
    have h52 := fun s => k52 S L (fun _ => hG) s
    have h53 := fun s => k53 S L s
    have h56 := fun s => k56 (settleP S L) (by omega) s
    have h55 := fun s => k55b S (settleP S L) (by omega) s
    have h67 := fun s => k67 S L (settleP S L) (Int.ofNat (lenOf (settleP S L))) (by omega) s
    rw [hAs] at h55
    rw [prove_eq hc ha (by omega) p1, decide_eq_true (Int.le_refl _), (settles_iff hc ha (by omega) p1).2 p2] at h67
    rw [hp, hE] at h52
    rw [hE] at h53
    obtain ⟨n, hnw⟩ : ∃ n : Nat, S.women = Int.ofNat n := ⟨S.women.toNat, by simp; omega⟩
    have hn6 : n ≤ 6 := by rw [hnw] at hw6; change (n : Int) ≤ 6 at hw6; omega
    have hnt : S.women.toNat = n := by rw [hnw]; rfl
    rw [hnt] at h52 hfar p1
    generalize owV S.es L = a at h52 p2 h240 hfar hzero
    have hs0 := sumI_l6 hn6 hfar hzero
    have hll : lenOf (l6 a n) = n := l6_len a n
    have hA6 : (l6 a n).length ≤ 6 := by rw [l6_len]; exact hn6
    have hAb : ∀ v ∈ l6 a n, -240 ≤ v ∧ v ≤ 240 := by
      intro v hv
      unfold l6 at hv
      rw [List.mem_map] at hv
      obtain ⟨j, _, rfl⟩ := hv
      exact h240 j
    obtain ⟨N, O, p, q⟩ := s
    obtain ⟨w, es, ss⟩ := S
    simp only at hnw
    subst hnw
    by_cases hn0 : n = 0
    · have hP : settleP ⟨Int.ofNat n, es, ss⟩ L = [] := by
        cases hq : settleP ⟨Int.ofNat n, es, ss⟩ L with
        | nil => rfl
        | cons x l =>
          obtain ⟨f, t, h1, _⟩ := p1 x (by rw [hq]; simp)
          omega
      rw [hP] at h53 h55 h56 h67
      have hA : l6 a n = [] := by rw [hn0]; rfl
      rw [hA] at h52 hll
      have h31v := fun s => k31v2n s
      have h0 := fun s => l18_0 (.vref [i64 (Int.ofNat n), sl cE es, sl cS ss]) (sl cI L) (sl cP []) (.vsl [] 0 .full) [] (by simp) (by simp) s 0 0 0 rfl (by simp) (by simp)
      have h1 : ∀ s, lim tbl (.loop a18_l1 133 ⟨[2, 5, 8, 10, 11, 13], [2, 5, 8, 10, 11], []⟩ [.vref [i64 (Int.ofNat n), sl cE es, sl cS ss], sl cI L, sl cP [], i64 0, .vsl [] 0 .full, i64 0]) s
          = some (.exit 2, [.vref [i64 (Int.ofNat n), sl cE es, sl cS ss], sl cI L, sl cP [], i64 0, .vsl [] 0 .full], s) := by
        intro s
        obtain ⟨N, O, p, q⟩ := s
        rw [lim_loop]
        (try simp only [go_sem, ↓reduceIte, Nat.reduceAdd, Nat.reduceEqDiff, Nat.reduceLT, Nat.reduceLeDiff, Nat.reduceBEq, Int.reduceEq, Int.reduceLT, Int.reduceLE]); (repeat ((first | (rw [lt_yes]; rotate_left; (first | omega | (simp [lenOf, app]; omega) | (simp only [lenOf]; omega))) | (rw [lt_no]; rotate_left; (first | omega | (simp [lenOf, app]; omega) | (simp only [lenOf]; omega))) | (rw [idxA_at]; rotate_left; (first | omega | (simp [lenOf, app]; omega) | (simp only [lenOf]; omega))) | (rw [wr_up]; rotate_left; (first | omega | (simp [lenOf, app]; omega) | (simp only [lenOf]; omega))) | ((first | rw [drop_cI] | rw [drop_cE] | rw [drop_cS] | rw [drop_cP] | rw [drop_cR]); rotate_left; assumption)); try simp only [go_sem, ↓reduceIte, Nat.reduceAdd, Nat.reduceEqDiff, Nat.reduceLT, Nat.reduceLeDiff, Nat.reduceBEq, Int.reduceEq, Int.reduceLT, Int.reduceLE]))
      have hmz := mkS_at (n := n) (by omega) N O p q
      have h43 := k43g (s := ⟨na N 1, .cells (cellsOf cI (zerosL n)) :: O, p, q⟩) (x := sl cI []) (y := .hsl N 0 n (some n)) (rdI_sl _ []) (rdI_hsl _ _ n _ (zerosL n) (by simp [zerosL]) (get_1_0 ..)) (by simp)
      have h43 := (lim_norms2 (args := [.vsl [] 0 .full, .hsl N 0 n (some n)]) (args' := [sl cI [], .hsl N 0 n (some n)]) tbl_43 rfl rfl _).trans h43
      have hsm : sameL [] (zerosL n) = true := by rw [hn0]; rfl
      rw [hsm] at h43
      simp only [List.drop_nil, sumI, Int.add_zero, ofNat_0] at h0
      have h31n := h31v
      generalize hX : ([] : List Int) = X at h52 hll h31n h0
      generalize hY : ([] : List Pay) = Y at h53 h55 h56 h67 h0 h1
      (try simp only [go_sem, ↓reduceIte, Nat.reduceAdd, Nat.reduceEqDiff, Nat.reduceLT, Nat.reduceLeDiff, Nat.reduceBEq, Int.reduceEq, Int.reduceLT, Int.reduceLE]); (repeat ((first | simp only [h46] | simp only [h51] | rw [hwt] | rw [hrem] | simp only [h50] | simp only [h24] | simp only [h31] | simp only [h52] | simp only [h53] | simp only [hll] | simp only [h56] | simp only [h55] | simp only [h31n] | simp only [h0] | simp only [h1] | rw [hmz] | rw [h43] | simp only [h67] | rw [eq_y rfl] | simp only [h22] | (rw [lt_yes]; rotate_left; (first | omega | (simp [lenOf, app]; omega) | (simp only [lenOf]; omega))) | (rw [lt_no]; rotate_left; (first | omega | (simp [lenOf, app]; omega) | (simp only [lenOf]; omega))) | (rw [idxA_at]; rotate_left; (first | omega | (simp [lenOf, app]; omega) | (simp only [lenOf]; omega))) | (rw [wr_up]; rotate_left; (first | omega | (simp [lenOf, app]; omega) | (simp only [lenOf]; omega))) | ((first | rw [drop_cI] | rw [drop_cE] | rw [drop_cS] | rw [drop_cP] | rw [drop_cR]); rotate_left; assumption)); try simp only [go_sem, ↓reduceIte, Nat.reduceAdd, Nat.reduceEqDiff, Nat.reduceLT, Nat.reduceLeDiff, Nat.reduceBEq, Int.reduceEq, Int.reduceLT, Int.reduceLE]))
    · have h31v := k31v2 (l6 a n) (by rw [l6_len]; exact hn0) (by rw [l6_len]; omega) N O p q
      have h0 := fun s => l18_0 (.vref [i64 (Int.ofNat n), sl cE es, sl cS ss]) (sl cI L) (sl cP (settleP ⟨Int.ofNat n, es, ss⟩ L)) (.hsl N 0 n none) (l6 a n) hA6 hAb s n 0 0 (by rw [l6_len]; omega) (by simp) (by simp)
      rw [List.drop_zero, hs0, ofNat_0, Int.add_zero] at h0
      have h1 := l18_1 (.vref [i64 (Int.ofNat n), sl cE es, sl cS ss]) (sl cI L) 0 n hn6 (settleP ⟨Int.ofNat n, es, ss⟩ L) p6 p1 N O p q (settleP ⟨Int.ofNat n, es, ss⟩ L).length 0 a (by omega) (fun j => by have := h240 j; omega)
      rw [List.drop_zero, show l6 (fun j => a j + paysD (settleP ⟨Int.ofNat n, es, ss⟩ L) j) n = zerosL n from by
        unfold l6 zerosL
        simp only [p2]
        apply List.ext_getElem
        · simp
        · intro i h1 h2; simp, ofNat_0] at h1
      have hmz := mkS_at (n := n) (by omega) (na N 1) (.cells (cellsOf cI (zerosL n)) :: O) p q
      have h43 := k43g (s := ⟨na (na N 1) 1, .cells (cellsOf cI (zerosL n)) :: .cells (cellsOf cI (zerosL n)) :: O, p, q⟩) (x := .hsl N 0 n none) (y := .hsl (na N 1) 0 n (some n)) (rdI_hsl _ _ n _ (zerosL n) (by simp [zerosL]) (get_2_0 ..)) (rdI_hsl _ _ n _ (zerosL n) (by simp [zerosL]) (get_2_1 ..)) (by simp [zerosL]; omega)
      have hsm : sameL (zerosL n) (zerosL n) = true := by simp [sameL]
      rw [hsm] at h43
      rw [hll] at h31v
      generalize zerosL n = Z at h1 hmz h43
      generalize l6 a n = A at h52 h31v h0 h1 hll
      generalize settleP ⟨Int.ofNat n, es, ss⟩ L = P at h53 h56 h55 h67 h0 h1
      (try simp only [go_sem, ↓reduceIte, Nat.reduceAdd, Nat.reduceEqDiff, Nat.reduceLT, Nat.reduceLeDiff, Nat.reduceBEq, Int.reduceEq, Int.reduceLT, Int.reduceLE]); (repeat ((first | simp only [h46] | simp only [h51] | rw [hwt] | rw [hrem] | simp only [h50] | simp only [h24] | simp only [h31] | simp only [h52] | simp only [h53] | simp only [hll] | simp only [h56] | simp only [h55] | rw [h31v] | simp only [h0] | rw [h1] | rw [hmz] | rw [h43] | simp only [h67] | rw [eq_y rfl] | simp only [h22] | (rw [lt_yes]; rotate_left; (first | omega | (simp [lenOf, app]; omega) | (simp only [lenOf]; omega))) | (rw [lt_no]; rotate_left; (first | omega | (simp [lenOf, app]; omega) | (simp only [lenOf]; omega))) | (rw [idxA_at]; rotate_left; (first | omega | (simp [lenOf, app]; omega) | (simp only [lenOf]; omega))) | (rw [wr_up]; rotate_left; (first | omega | (simp [lenOf, app]; omega) | (simp only [lenOf]; omega))) | ((first | rw [drop_cI] | rw [drop_cE] | rw [drop_cS] | rw [drop_cP] | rw [drop_cR]); rotate_left; assumption)); try simp only [go_sem, ↓reduceIte, Nat.reduceAdd, Nat.reduceEqDiff, Nat.reduceLT, Nat.reduceLeDiff, Nat.reduceBEq, Int.reduceEq, Int.reduceLT, Int.reduceLE]))
theorem Try_own : ownKnob Try.prog.godebug = none := by kernel_rfl
theorem lost_lifted (os : Os) (started : os.Started) (H : Type) (enc : TypeId × Value → H) :
    ReturnsInHanded {} Try.checked os 18 .any (Ytlhfeiacigmliaa.Rows.soapLostSpec.pre6 enc Try.prog Try.f18 Ytlhfeiacigmliaa.Rows.soapLostRow.domain false) (Ytlhfeiacigmliaa.Rows.soapLostSpec.post enc Try.prog Try.f18 false true false false) := by
  refine returnsInHanded_of_change (C := Try.checked) Try_own started (by kernel_rfl) Try.func18
    (ChangeSpec.witness6 (enc := enc) (C := Try.checked) false ⟨#[], #[.agg #[.int .i64 0, .slice none 0 0, .slice none 0 0], .int .u16 0], []⟩ 8 (by kernel_rfl) (by kernel_rfl) (by kernel_rfl) (by kernel_rfl)) ?_
  intro W base args ds gs before hval0 hW hcnd _
  have hval : ∀ (j : Nat) t v, Try.f18.params[j]? = some t → args[j]? = some v → Value.okWide Try.prog W .any base t v := hval0
  have hW' := hW
  obtain ⟨p, q, hA0, hV, rfl, hfz, hnd⟩ := hW
  have hA : DataW.TrodAll enc Try.prog W 0 (fun _ => true) true Try.f18.params.toList args.toList ds p := hA0
  rw [Try.params18] at hA hval
  obtain ⟨v0, v1, d0, d1, p0, p1, rfl, rfl, hp, h0, h1⟩ := trodAll_two hA
  obtain ⟨rfl, rfl⟩ := trodVars_none hV
  obtain ⟨x0, r0⟩ := rel_slate (hval 0 25 v0 rfl rfl) h0
  obtain ⟨x1, l1, r1⟩ := rel_u16 (hval 1 69 v1 rfl rfl) h1
  refine (sound_lim tbl_ok (k18 x0 x1 l1 St.empty) (sim0 Try.prog W) (args' := #[v0, v1]) ⟨v0, [v1], rfl, r0, ⟨v1, [], rfl, r1, rfl⟩⟩).mono fun e W' he => ?_
  obtain ⟨v', ρ', he, hv, _, hF⟩ := he
  subst he
  have hv : v' = .bool true := hv
  subst hv
  exact ⟨_, rfl, shut_true hW' rfl rfl (by rw [Try.params18]; intro t ht; simp at ht; rcases ht with rfl | rfl <;> exact ⟨by kernel_rfl, of_decide_eq_true (by kernel_rfl)⟩) rfl rfl rfl hF⟩
theorem lost_holds : Ytlhfeiacigmliaa.Rows.SoapLostSaid :=
  OpenClaim.holds_of_wide 18 Try.f18 rfl rfl rfl rfl rfl rfl rfl ⟨rfl, rfl, rfl, rfl, rfl⟩ rfl rfl rfl rfl rfl (by kernel_rfl) Try.func18 (by kernel_rfl)
    (of_decide_eq_true (by kernel_rfl)) (by unfold Func.isWrapper; first | (rw [if_pos (by decide +kernel)]; kernel_rfl) | (rw [if_neg (by decide +kernel)]; exact ⟨rfl, rfl⟩))
    (fun os started H enc _ => lost_lifted os started H enc)
#print axioms lost_holds
end Go.Proofs.Ytlhfeiacigmliaa
