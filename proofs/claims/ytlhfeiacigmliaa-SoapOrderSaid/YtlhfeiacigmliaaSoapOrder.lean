/- The law SoapOrder answers true for every slate and numbers: if the entries are listed in another order, all women are owed the same, and as many payments settle all; if From and To of all entries are exchanged, each woman is owed as much with the other sign, and as many payments settle all. -/
import Derived.Test.YtlhfeiacigmliaaPartI
set_option linter.all false
namespace Go.Proofs.Ytlhfeiacigmliaa
open Go Go.ChangeShapes Go.RowKit
set_option maxRecDepth 100000
set_option maxHeartbeats 4000000

def r1 (k : Nat) : Nat := if k = 0 then 0 else 1
def r3P (p a b c : Nat) : Nat := p + r1 a + r1 b + r1 c
def r3C (p : Nat) (q : Nat → Nat) (a b c : Nat) : Nat → Nat := fun x => if x = p ∧ a ≠ 0 then a else if x = p + 1 ∧ b ≠ 0 then b else if x = p + 2 ∧ c ≠ 0 then c else q x
theorem append_to {α : Type} {f : α → List AVal} {sz : Nat} (hf : ∀ a, (f a).length = sz) (bytes r : Nat) (s : St) (l : List α) (a : α) (perm : Perm) (h : (l.length + 1) * bytes ≤ 140737488355328) (h' : l.length + 1 ≤ 140737488355328)
    (h1 : l.length ≠ 0 → s.cur r = l.length ∧ r < s.pn) (h2 : l.length = 0 → s.pn = r) {s' : St} (hs : s' = if l.length = 0 then s.fresh 1 else s.grow r (l.length + 1)) :
    appendA sz bytes (ownSl f r l) (.vsl (f a) 1 perm) s = some (ownSl f r (app l [a]), s') := by
  have he : elemsA s sz (.vsl (f a) 1 perm) = some (1, f a) := by simp [elemsA, hf]
  unfold appendA
  rw [he]
  simp only [Nat.one_ne_zero, if_false, app]
  cases l with
  | nil =>
    have h2 := h2 rfl
    subst hs
    simp only [ownSl, List.length_nil, if_true, List.nil_append, List.length_singleton, Nat.one_ne_zero, if_false]
    simp only [List.length_nil, Nat.zero_add] at h h'
    rw [if_pos ⟨h, h'⟩]
    simp [cellsOf, h2]
  | cons b l =>
    obtain ⟨h3, h4⟩ := h1 (by simp)
    subst hs
    have hlen : (cellsOf f (b :: l)).length = (b :: l).length * sz := cells_length hf _
    simp only [ownSl, show (b :: l).length ≠ 0 by simp, if_false, List.length_append, List.length_singleton, show (b :: l).length + 1 ≠ 0 by simp]
    rw [if_pos ⟨hlen, h, h'⟩]
    simp only [h3, h4, and_self, if_true, cells_append, Option.some.injEq, Prod.mk.injEq, and_true]
    simp [cellsOf]
section
variable {α : Type} {f : α → List AVal} {sz : Nat} (hf : ∀ a, (f a).length = sz) (bytes p : Nat) (q : Nat → Nat) (N : Nat) (O : List AObj) (l : List α) (a : α) (cs : List AVal) (hcs : cs = f a) (perm : Perm) (h : (l.length + 1) * bytes ≤ 140737488355328) (h' : l.length + 1 ≤ 140737488355328)
include hf hcs h h'
theorem app3x {k : Nat} (hk : l.length = k) : appendA sz bytes (ownSl f p l) (.vsl cs 1 perm) ⟨N, O, r3P p k k k, r3C p q k k k⟩ = some (ownSl f p (app l [a]), ⟨N, O, r3P p (k + 1) k k, r3C p q (k + 1) k k⟩) := by
  subst hcs hk
  refine append_to hf bytes p _ l a perm h h' (fun h0 => ⟨?_, ?_⟩) (fun h0 => ?_) ?_
  · simp [r3C, h0]
  · (first | (simp [r3P, r1, h0]; done) | (simp [r3P, r1, h0]; omega))
  · simp [r3P, r1, h0]
  · by_cases h0 : l.length = 0
    · rw [if_pos h0]
      simp only [St.fresh, r3P, r1, h0, if_true, St.mk.injEq, true_and, Nat.add_zero]
      refine ⟨by simp, ?_⟩
      funext x
      simp only [r3C]
      by_cases hx : x = p <;> simp [hx]
    · rw [if_neg h0]
      simp only [St.grow, r3P, r1, h0, if_false, St.mk.injEq, true_and]
      refine ⟨by simp, ?_⟩
      funext x
      simp only [r3C]
      by_cases hx : x = p <;> simp [hx]
theorem app3u {k : Nat} (hk : l.length = k) : appendA sz bytes (ownSl f (p + 1) l) (.vsl cs 1 perm) ⟨N, O, r3P p (k + 1) k k, r3C p q (k + 1) k k⟩ = some (ownSl f (p + 1) (app l [a]), ⟨N, O, r3P p (k + 1) (k + 1) k, r3C p q (k + 1) (k + 1) k⟩) := by
  subst hcs hk
  refine append_to hf bytes (p + 1) _ l a perm h h' (fun h0 => ⟨?_, ?_⟩) (fun h0 => ?_) ?_
  · simp [r3C, h0]
  · (first | (simp [r3P, r1, h0]; done) | (simp [r3P, r1, h0]; omega))
  · simp [r3P, r1, h0]
  · by_cases h0 : l.length = 0
    · rw [if_pos h0]
      simp only [St.fresh, r3P, r1, h0, if_true, St.mk.injEq, true_and, Nat.add_zero]
      refine ⟨by simp, ?_⟩
      funext x
      simp only [r3C]
      by_cases hx : x = p
      · simp [hx]
      · by_cases hx1 : x = p + 1 <;> simp [hx, hx1]
    · rw [if_neg h0]
      simp only [St.grow, r3P, r1, h0, if_false, St.mk.injEq, true_and]
      refine ⟨by simp, ?_⟩
      funext x
      simp only [r3C]
      by_cases hx : x = p
      · simp [hx]
      · by_cases hx1 : x = p + 1 <;> simp [hx, hx1]
theorem app3y {k : Nat} (hk : l.length = k) : appendA sz bytes (ownSl f (p + 2) l) (.vsl cs 1 perm) ⟨N, O, r3P p (k + 1) (k + 1) k, r3C p q (k + 1) (k + 1) k⟩ = some (ownSl f (p + 2) (app l [a]), ⟨N, O, r3P p (k + 1) (k + 1) (k + 1), r3C p q (k + 1) (k + 1) (k + 1)⟩) := by
  subst hcs hk
  refine append_to hf bytes (p + 2) _ l a perm h h' (fun h0 => ⟨?_, ?_⟩) (fun h0 => ?_) ?_
  · simp [r3C, h0]
  · (first | (simp [r3P, r1, h0]; done) | (simp [r3P, r1, h0]; omega))
  · simp [r3P, r1, h0]
  · by_cases h0 : l.length = 0
    · rw [if_pos h0]
      simp only [St.fresh, r3P, r1, h0, if_true, St.mk.injEq, true_and, Nat.add_zero]
      refine ⟨by simp, ?_⟩
      funext x
      simp only [r3C]
      by_cases hx : x = p
      · simp [hx]
      · by_cases hx1 : x = p + 1
        · simp [hx1]
        · by_cases hx2 : x = p + 2 <;> simp [hx, hx1, hx2]
    · rw [if_neg h0]
      simp only [St.grow, r3P, r1, h0, if_false, St.mk.injEq, true_and]
      refine ⟨by simp, ?_⟩
      funext x
      simp only [r3C]
      by_cases hx : x = p
      · simp [hx]
      · by_cases hx1 : x = p + 1
        · simp [hx1]
        · by_cases hx2 : x = p + 2 <;> simp [hx, hx1, hx2]
end
theorem r3_old {N : Nat} {O : List AObj} {p : Nat} {q : Nat → Nat} {a b c : Nat} {o1 o2 : AObj} : old ⟨N, O, p, q⟩ ⟨na (na N 1) 1, o1 :: o2 :: O, r3P p a b c, r3C p q a b c⟩ = true :=
  old_room (l := [o1, o2]) rfl (fun x hx => by simp [r3C]; rw [if_neg (by omega), if_neg (by omega), if_neg (by omega)])
theorem take_next {α : Type} {l : List α} {i : Nat} {a : α} (h : l[i]? = some a) : app (l.take i) [a] = l.take (i + 1) := by
  unfold app
  rw [List.take_add_one, h]; rfl
theorem l10_0 (w : Int) (es : List Ent) (ss : List Say) (L : List Int) (n : Nat) (hn : es.length = n) (hL : L.length = n) (hn6 : n ≤ 6) (u : Nat) (hu : u < 256) (N : Nat) (O : List AObj) (p : Nat) (q : Nat → Nat) : ∀ (k i : Nat), i + k = n →
    lim tbl (.loop a10_l0 211 ⟨[2, 3, 7, 8, 9, 10, 11, 12], [3, 7, 9, 10, 11], []⟩ [.int .u8 (Int.ofNat u), .vref [i64 w, sl cE es, sl cS ss], sl cI L, i64 (Int.ofNat n), .ptr N 0, .ptr (na N 1) 0, ownSl cI (p + 1) ((turnL (bmod u n) L).take i), i64 (Int.ofNat i)])
      ⟨na (na N 1) 1, .cells [i64 w, ownSl cE (p + 2) ((es.map backE).take i), sl cS ss] :: .cells [i64 w, ownSl cE p ((turnL (bmod u n) es).take i), sl cS ss] :: O, r3P p i i i, r3C p q i i i⟩
      = some (.exit 0, [.vref [i64 w, sl cE es, sl cS ss], sl cI L, .ptr N 0, .ptr (na N 1) 0, ownSl cI (p + 1) (turnL (bmod u n) L)],
        ⟨na (na N 1) 1, .cells [i64 w, ownSl cE (p + 2) (es.map backE), sl cS ss] :: .cells [i64 w, ownSl cE p (turnL (bmod u n) es), sl cS ss] :: O, r3P p n n n, r3C p q n n n⟩) := by
  intro k
  induction k with
  | zero =>
    intro i hi
    have hin : i = n := by omega
    subst hin
    rw [List.take_of_length_le (l := turnL (bmod u i) L) (by rw [turn_len]; omega), List.take_of_length_le (l := turnL (bmod u i) es) (by rw [turn_len]; omega), List.take_of_length_le (l := es.map backE) (by rw [List.length_map]; omega), lim_loop]
    generalize turnL (bmod u i) L = U
    generalize turnL (bmod u i) es = X
    generalize es.map backE = Y
    have hlt : ¬ Int.ofNat i < Int.ofNat i := by omega
    (try simp only [go_sem, ↓reduceIte, Nat.reduceAdd, Nat.reduceEqDiff, Nat.reduceLT, Nat.reduceLeDiff, Nat.reduceBEq, Int.reduceEq, Int.reduceLT, Int.reduceLE]); (repeat ((first | rw [lt_n hlt] | (rw [lt_yes]; rotate_left; (first | omega | (simp [lenOf, app]; omega) | (simp only [lenOf]; omega))) | (rw [lt_no]; rotate_left; (first | omega | (simp [lenOf, app]; omega) | (simp only [lenOf]; omega))) | (rw [idxA_at]; rotate_left; (first | omega | (simp [lenOf, app]; omega) | (simp only [lenOf]; omega))) | (rw [wr_up]; rotate_left; (first | omega | (simp [lenOf, app]; omega) | (simp only [lenOf]; omega))) | ((first | rw [drop_cI] | rw [drop_cE] | rw [drop_cS] | rw [drop_cP] | rw [drop_cR]); rotate_left; assumption)); try simp only [go_sem, ↓reduceIte, Nat.reduceAdd, Nat.reduceEqDiff, Nat.reduceLT, Nat.reduceLeDiff, Nat.reduceBEq, Int.reduceEq, Int.reduceLT, Int.reduceLE]))
  | succ k ih =>
    intro i hi
    have hlt : Int.ofNat i < Int.ofNat n := by simp only [Int.ofNat_eq_natCast]; omega
    have h' := ih (i + 1) (by omega)
    have hjn : bmod (i + u) n < n := Nat.mod_lt _ (by omega)
    obtain ⟨⟨f, t, ⟨lo, hi'⟩⟩, hx⟩ : ∃ e, es[bmod (i + u) n]? = some e := ⟨_, List.getElem?_eq_getElem (by omega)⟩
    obtain ⟨z, hz⟩ : ∃ z, L[bmod (i + u) n]? = some z := ⟨_, List.getElem?_eq_getElem (by omega)⟩
    obtain ⟨⟨f2, t2, ⟨lo2, hi2⟩⟩, hy⟩ : ∃ e, es[i]? = some e := ⟨_, List.getElem?_eq_getElem (by omega)⟩
    have tx := turn_get (u := u) hn (i := i) (by omega)
    have tz := turn_get (u := u) hL (i := i) (by omega)
    rw [hx] at tx
    rw [hz] at tz
    have ty : (es.map backE)[i]? = some ⟨t2, f2, ⟨lo2, hi2⟩⟩ := by rw [List.getElem?_map, hy]; rfl
    have dx := drop_cE hx
    have dz := drop_cI hz
    have dy := drop_cE hy
    have a1 := fun N O => app3x (f := cE) (sz := 4) (fun _ => rfl) 32 p q N O ((turnL (bmod u n) es).take i) ⟨f, t, ⟨lo, hi'⟩⟩ [i64 f, i64 t, i64 lo, i64 hi'] rfl .full (by rw [List.length_take]; omega) (by rw [List.length_take]; omega) (k := i) (by rw [List.length_take, turn_len]; omega)
    have a2 := fun N O => app3u (f := cI) (sz := 1) (fun _ => rfl) 8 p q N O ((turnL (bmod u n) L).take i) z [i64 z] rfl .full (by rw [List.length_take]; omega) (by rw [List.length_take]; omega) (k := i) (by rw [List.length_take, turn_len]; omega)
    have a3 := fun N O => app3y (f := cE) (sz := 4) (fun _ => rfl) 32 p q N O ((es.map backE).take i) ⟨t2, f2, ⟨lo2, hi2⟩⟩ [i64 t2, i64 f2, i64 lo2, i64 hi2] rfl .full (by rw [List.length_take]; omega) (by rw [List.length_take]; omega) (k := i) (by rw [List.length_take, List.length_map]; omega)
    rw [take_next tx] at a1
    rw [take_next tz] at a2
    rw [take_next ty] at a3
    have e1 : wr .i64 (Int.ofNat u) = Int.ofNat u := wr_nat (by omega)
    have e2 : wr .i64 (Int.add (Int.ofNat i) (Int.ofNat u)) = Int.ofNat (i + u) := by
      simp only [Int.ofNat_eq_natCast]; rw [fold_add, wr_in] <;> omega
    have e3 : remI (Int.ofNat (i + u)) (Int.ofNat n) = some (i64 (Int.ofNat (bmod (i + u) n))) := rem_at (by omega)
    have hE : lenOf es = n := hn
    have hLn : lenOf L = n := hL
    generalize bmod (i + u) n = j at dx dz e3 hjn
    have i1 : idxA (i64 (Int.ofNat j)) (lenOf es) = some j := idxA_at (by omega)
    have i2 : idxA (i64 (Int.ofNat j)) (lenOf L) = some j := idxA_at (by omega)
    have i3 : idxA (i64 (Int.ofNat i)) (lenOf es) = some i := idxA_at (by omega)
    generalize (turnL (bmod u n) es).take (i + 1) = X1 at a1 h'
    generalize (turnL (bmod u n) L).take (i + 1) = U1 at a2 h'
    generalize (es.map backE).take (i + 1) = Y1 at a3 h'
    generalize (turnL (bmod u n) es).take i = X0 at a1 ⊢
    generalize (turnL (bmod u n) L).take i = U0 at a2 ⊢
    generalize (es.map backE).take i = Y0 at a3 ⊢
    rw [lim_loop]
    generalize hR : some (_, _, _) = R at h' ⊢
    (try simp only [go_sem, ↓reduceIte, Nat.reduceAdd, Nat.reduceEqDiff, Nat.reduceLT, Nat.reduceLeDiff, Nat.reduceBEq, Int.reduceEq, Int.reduceLT, Int.reduceLE]); (repeat ((first | rw [lt_y hlt] | rw [e1] | rw [e2] | rw [e3] | rw [i1] | rw [i2] | rw [i3] | rw [dx] | rw [dz] | rw [dy] | rw [a1] | rw [a2] | rw [a3] | (rw [lt_yes]; rotate_left; (first | omega | (simp [lenOf, app]; omega) | (simp only [lenOf]; omega))) | (rw [lt_no]; rotate_left; (first | omega | (simp [lenOf, app]; omega) | (simp only [lenOf]; omega))) | (rw [idxA_at]; rotate_left; (first | omega | (simp [lenOf, app]; omega) | (simp only [lenOf]; omega))) | (rw [wr_up]; rotate_left; (first | omega | (simp [lenOf, app]; omega) | (simp only [lenOf]; omega))) | ((first | rw [drop_cI] | rw [drop_cE] | rw [drop_cS] | rw [drop_cP] | rw [drop_cR]); rotate_left; assumption)); try simp only [go_sem, ↓reduceIte, Nat.reduceAdd, Nat.reduceEqDiff, Nat.reduceLT, Nat.reduceLeDiff, Nat.reduceBEq, Int.reduceEq, Int.reduceLT, Int.reduceLE]))
    exact h'
theorem l10_1 (A B : List Int) (hA : A.length ≤ 6) (hl : B.length = A.length) (h : ∀ (i : Nat) (a : Int), A[i]? = some a → -240 ≤ a ∧ a ≤ 240 ∧ B[i]? = some (-a)) (s : St) : ∀ (k i : Nat), i + k = A.length →
    lim tbl (.loop a10_l1 211 ⟨[14, 18, 26], [], [6]⟩ [sl cI A, sl cI B, i64 (Int.ofNat i)]) s = some (.exit 2, [], s) := by
  intro k
  induction k with
  | zero =>
    intro i hi
    rw [lim_loop]
    obtain ⟨N, O, p, q⟩ := s
    (try simp only [go_sem, ↓reduceIte, Nat.reduceAdd, Nat.reduceEqDiff, Nat.reduceLT, Nat.reduceLeDiff, Nat.reduceBEq, Int.reduceEq, Int.reduceLT, Int.reduceLE]); (repeat ((first | (rw [lt_yes]; rotate_left; (first | omega | (simp [lenOf, app]; omega) | (simp only [lenOf]; omega))) | (rw [lt_no]; rotate_left; (first | omega | (simp [lenOf, app]; omega) | (simp only [lenOf]; omega))) | (rw [idxA_at]; rotate_left; (first | omega | (simp [lenOf, app]; omega) | (simp only [lenOf]; omega))) | (rw [wr_up]; rotate_left; (first | omega | (simp [lenOf, app]; omega) | (simp only [lenOf]; omega))) | ((first | rw [drop_cI] | rw [drop_cE] | rw [drop_cS] | rw [drop_cP] | rw [drop_cR]); rotate_left; assumption)); try simp only [go_sem, ↓reduceIte, Nat.reduceAdd, Nat.reduceEqDiff, Nat.reduceLT, Nat.reduceLeDiff, Nat.reduceBEq, Int.reduceEq, Int.reduceLT, Int.reduceLE]))
  | succ k ih =>
    intro i hi
    have hlt : i < A.length := by omega
    have hlt2 : i < lenOf B := by unfold lenOf; omega
    obtain ⟨a, ha, _⟩ := getElem_drop hlt
    obtain ⟨h1, h2, hb⟩ := h i a ha
    have h' := ih (i + 1) (by omega)
    have d1 := drop_cI ha
    have d2 := drop_cI hb
    have hw : wr .i64 (Int.sub 0 a) = -a := by rw [fold_sub, wr_in] <;> omega
    rw [lim_loop]
    generalize hR : some (_, _, _) = R at h' ⊢
    obtain ⟨N, O, p, q⟩ := s
    (try simp only [go_sem, ↓reduceIte, Nat.reduceAdd, Nat.reduceEqDiff, Nat.reduceLT, Nat.reduceLeDiff, Nat.reduceBEq, Int.reduceEq, Int.reduceLT, Int.reduceLE]); (repeat ((first | rw [d1] | rw [d2] | rw [hw] | rw [eq_y rfl] | (rw [lt_yes]; rotate_left; (first | omega | (simp [lenOf, app]; omega) | (simp only [lenOf]; omega))) | (rw [lt_no]; rotate_left; (first | omega | (simp [lenOf, app]; omega) | (simp only [lenOf]; omega))) | (rw [idxA_at]; rotate_left; (first | omega | (simp [lenOf, app]; omega) | (simp only [lenOf]; omega))) | (rw [wr_up]; rotate_left; (first | omega | (simp [lenOf, app]; omega) | (simp only [lenOf]; omega))) | ((first | rw [drop_cI] | rw [drop_cE] | rw [drop_cS] | rw [drop_cP] | rw [drop_cR]); rotate_left; assumption)); try simp only [go_sem, ↓reduceIte, Nat.reduceAdd, Nat.reduceEqDiff, Nat.reduceLT, Nat.reduceLeDiff, Nat.reduceBEq, Int.reduceEq, Int.reduceLT, Int.reduceLE]))
    exact h'
theorem k10 (S : Slate) (t : Nat) (ht : t < 65536) (u : Nat) (hu : u < 256) (s : St) : lim tbl (.call 10 [vSl S, .int .u16 (Int.ofNat t), .int .u8 (Int.ofNat u)]) s = some (.ret, [.bool true], s) := by
  have h46 := fun s => k46 S s
  have h22 := fun s => k22 s
  rw [lim_call tbl_10]
  cases hT : readyS S with
  | false =>
    rw [hT] at h46
    obtain ⟨w, es, ss⟩ := S
    obtain ⟨N, O, p, q⟩ := s
    (try simp only [go_sem, ↓reduceIte, Nat.reduceAdd, Nat.reduceEqDiff, Nat.reduceLT, Nat.reduceLeDiff, Nat.reduceBEq, Int.reduceEq, Int.reduceLT, Int.reduceLE]); (repeat ((first | simp only [h46] | simp only [h22] | (rw [lt_yes]; rotate_left; (first | omega | (simp [lenOf, app]; omega) | (simp only [lenOf]; omega))) | (rw [lt_no]; rotate_left; (first | omega | (simp [lenOf, app]; omega) | (simp only [lenOf]; omega))) | (rw [idxA_at]; rotate_left; (first | omega | (simp [lenOf, app]; omega) | (simp only [lenOf]; omega))) | (rw [wr_up]; rotate_left; (first | omega | (simp [lenOf, app]; omega) | (simp only [lenOf]; omega))) | ((first | rw [drop_cI] | rw [drop_cE] | rw [drop_cS] | rw [drop_cP] | rw [drop_cR]); rotate_left; assumption)); try simp only [go_sem, ↓reduceIte, Nat.reduceAdd, Nat.reduceEqDiff, Nat.reduceLT, Nat.reduceLeDiff, Nat.reduceBEq, Int.reduceEq, Int.reduceLT, Int.reduceLE]))
  | true =>
    rw [hT] at h46
    obtain ⟨hc, hT1⟩ := ready_inv hT
    have hG := good_of_check hc
    have hw0 := hG.w0
    have hw6 := hG.w6
    have e6 := hG.e6
    have s5 := hG.s5
    obtain ⟨hm, hM⟩ := many_of_check hc
    have h51 := fun s => k51 S (by omega) s
    rw [hM] at h51
    have hpos := prodN_pos hG.oe
    have hwt : wr .i64 (Int.ofNat t) = Int.ofNat t := wr_nat (by omega)
    have hrem : remI (Int.ofNat t) (Int.ofNat (prodN S.es)) = some (i64 (Int.ofNat (bmod t (prodN S.es)))) := rem_at (by omega)
    have hbm : bmod t (prodN S.es) < prodN S.es := Nat.mod_lt _ hpos
    generalize prodN S.es = M at h51 hrem hm hbm
    have h50 := fun s => k50 S (bmod t M) (by omega) hG.oe (by omega) s
    have ha := nth_areOz hG.oe (bmod t M)
    generalize bmod t M = v at hrem h50 ha
    have hLl := areOz_len ha
    generalize nthRef S.es v = L at h50 ha hLl
    obtain ⟨N, O, p, q⟩ := s
    have hloop := l10_0 S.women S.es S.ss L (lenOf S.es) rfl hLl e6 u hu N O p q (lenOf S.es) 0 (Nat.zero_add _)
    obtain ⟨x1, x2, x3⟩ := turn_law hc ha (bmod u (lenOf S.es))
    have y1 := back_check hc
    have y2 : areOz (S.es.map backE) L = true := by rw [areOz_back]; exact ha
    have y3 := back_owV hc ha
    have z1 := settle_same (S := ⟨S.women, turnL (bmod u (lenOf S.es)) S.es, S.ss⟩) x1 x2 hc ha x3
    have z2 := back_law hc ha
    obtain ⟨hE, _, hp⟩ := play_facts hc ha
    obtain ⟨hEX, _, hpX⟩ := play_facts (S := ⟨S.women, turnL (bmod u (lenOf S.es)) S.es, S.ss⟩) x1 x2
    obtain ⟨hEY, _, hpY⟩ := play_facts (S := ⟨S.women, S.es.map backE, S.ss⟩) y1 y2
    have h240 := ow240 hc ha
    have gX := good_of_check x1
    have gY := good_of_check y1
    have lX := turn_len (bmod u (lenOf S.es)) S.es
    have lU := turn_len (bmod u (lenOf S.es)) L
    have lY : (S.es.map backE).length = S.es.length := List.length_map _
    have h24 := fun s => k24 S (by omega) (by omega) s
    have h31 := fun s => k31 L (by omega) s
    have h52 := fun s => k52 S L (fun _ => hG) s
    have h53 := fun s => k53 S L s
    have x24 := fun s => k24 ⟨S.women, turnL (bmod u (lenOf S.es)) S.es, S.ss⟩ (by simp only; omega) (by simp only; omega) s
    have x31 := fun s => k31 (turnL (bmod u (lenOf S.es)) L) (by omega) s
    have x52 := fun s => k52 ⟨S.women, turnL (bmod u (lenOf S.es)) S.es, S.ss⟩ (turnL (bmod u (lenOf S.es)) L) (fun _ => gX) s
    have x53 := fun s => k53 ⟨S.women, turnL (bmod u (lenOf S.es)) S.es, S.ss⟩ (turnL (bmod u (lenOf S.es)) L) s
    have y24 := fun s => k24 ⟨S.women, S.es.map backE, S.ss⟩ (by simp only; omega) (by simp only; omega) s
    have y52 := fun s => k52 ⟨S.women, S.es.map backE, S.ss⟩ L (fun _ => gY) s
    have y53 := fun s => k53 ⟨S.women, S.es.map backE, S.ss⟩ L s
    rw [hE, hp] at h52
    rw [hE] at h53
    simp only at hpX hpY x3 y3
    rw [hEX, hpX, x3] at x52
    rw [hEX, z1] at x53
    rw [hEY, hpY] at y52
    rw [hEY] at y53
    have hn6 : S.women.toNat ≤ 6 := by omega
    have hl0 := l10_1 (l6 (owV S.es L) S.women.toNat) (l6 (owV (S.es.map backE) L) S.women.toNat) (by rw [l6_len]; exact hn6) (by rw [l6_len, l6_len]) (fun i a hi => by
      have hlt : i < S.women.toNat := by have := (List.getElem?_eq_some_iff.1 hi).1; rwa [l6_len] at this
      simp only [l6, List.getElem?_map, List.getElem?_range hlt, Option.map_some, Option.some.injEq] at hi ⊢
      subst hi
      exact ⟨(h240 i).1, (h240 i).2, y3 i⟩)
    have hlp := fun s => hl0 s S.women.toNat 0 (by rw [l6_len]; omega)
    clear hl0
    have h43 := fun s => k43 (l6 (owV S.es L) S.women.toNat) (l6 (owV S.es L) S.women.toNat) (by rw [l6_len]; omega) s
    rw [show sameL (l6 (owV S.es L) S.women.toNat) (l6 (owV S.es L) S.women.toNat) = true by simp [sameL]] at h43
    have q1 : Int.ofNat (lenOf (l6 (owV (S.es.map backE) L) S.women.toNat)) = Int.ofNat (lenOf (l6 (owV S.es L) S.women.toNat)) := by unfold lenOf; rw [l6_len, l6_len]
    have q2 : Int.ofNat (lenOf (settleP ⟨S.women, S.es.map backE, S.ss⟩ L)) = Int.ofNat (lenOf (settleP S L)) := by unfold lenOf; rw [z2]
    rw [List.take_zero, List.take_zero, List.take_zero, ownSl_nil, ownSl_nil, ownSl_nil, show r3P p 0 0 0 = p from rfl, show r3C p q 0 0 0 = q from by funext x; simp [r3C], ofNat_0] at hloop
    rw [ofNat_0] at hlp
    generalize l6 (owV (S.es.map backE) L) S.women.toNat = B at y52 hlp q1
    generalize l6 (owV S.es L) S.women.toNat = A at h52 x52 hlp q1 h43
    generalize settleP ⟨S.women, S.es.map backE, S.ss⟩ L = Q at y53 q2
    generalize settleP S L = P at h53 x53 q2
    generalize turnL (bmod u (lenOf S.es)) S.es = X at hloop x24 x52 x53
    generalize turnL (bmod u (lenOf S.es)) L = U at hloop x31 x52 x53
    generalize S.es.map backE = Y at hloop y24 y52 y53
    obtain ⟨w, es, ss⟩ := S
    simp only at hloop x24 x52 x53 y24 y52 y53
    have n24 : ∀ s, lim tbl (.call 24 [.agg [i64 w, ownSl cE p X, sl cS ss]]) s = some (.ret, [vSl ⟨w, X, ss⟩], s) := fun s =>
      (call_norm tbl_24 rfl (args' := [vSl ⟨w, X, ss⟩]) (by simp only [norms_cons, norm_agg, norm_own_cE, vSl, norm_vsl, norms_cE, norms_cS, sl]) s).trans (x24 s)
    have m24 : ∀ s, lim tbl (.call 24 [.agg [i64 w, ownSl cE (p + 2) Y, sl cS ss]]) s = some (.ret, [vSl ⟨w, Y, ss⟩], s) := fun s =>
      (call_norm tbl_24 rfl (args' := [vSl ⟨w, Y, ss⟩]) (by simp only [norms_cons, norm_agg, norm_own_cE, vSl, norm_vsl, norms_cE, norms_cS, sl]) s).trans (y24 s)
    have n31 : ∀ s, lim tbl (.call 31 [ownSl cI (p + 1) U]) s = some (.ret, [sl cI U], s) := fun s =>
      (call_norm tbl_31 rfl (args' := [sl cI U]) (by simp only [norms_cons, norm_own_cI, sl, norm_vsl, norms_cI]) s).trans (x31 s)
    (try simp only [go_sem, ↓reduceIte, Nat.reduceAdd, Nat.reduceEqDiff, Nat.reduceLT, Nat.reduceLeDiff, Nat.reduceBEq, Int.reduceEq, Int.reduceLT, Int.reduceLE]); (repeat ((first | simp only [h46] | simp only [h51] | rw [hwt] | rw [hrem] | simp only [h50] | rw [hloop] | simp only [h24] | simp only [h31] | simp only [h52] | simp only [n24] | simp only [n31] | simp only [x52] | simp only [m24] | simp only [y52] | simp only [h53] | simp only [x53] | simp only [y53] | rw [eq_y rfl] | simp only [h43] | rw [eq_y q1] | rw [eq_y q2] | simp only [hlp] | simp only [h22] | rw [r3_old] | (rw [lt_yes]; rotate_left; (first | omega | (simp [lenOf, app]; omega) | (simp only [lenOf]; omega))) | (rw [lt_no]; rotate_left; (first | omega | (simp [lenOf, app]; omega) | (simp only [lenOf]; omega))) | (rw [idxA_at]; rotate_left; (first | omega | (simp [lenOf, app]; omega) | (simp only [lenOf]; omega))) | (rw [wr_up]; rotate_left; (first | omega | (simp [lenOf, app]; omega) | (simp only [lenOf]; omega))) | ((first | rw [drop_cI] | rw [drop_cE] | rw [drop_cS] | rw [drop_cP] | rw [drop_cR]); rotate_left; assumption)); try simp only [go_sem, ↓reduceIte, Nat.reduceAdd, Nat.reduceEqDiff, Nat.reduceLT, Nat.reduceLeDiff, Nat.reduceBEq, Int.reduceEq, Int.reduceLT, Int.reduceLE]))
theorem Try_own : ownKnob Try.prog.godebug = none := by kernel_rfl
theorem order_lifted (os : Os) (started : os.Started) (H : Type) (enc : TypeId × Value → H) :
    ReturnsInHanded {} Try.checked os 10 .any (Ytlhfeiacigmliaa.Rows.soapOrderSpec.pre6 enc Try.prog Try.f10 Ytlhfeiacigmliaa.Rows.soapOrderRow.domain false) (Ytlhfeiacigmliaa.Rows.soapOrderSpec.post enc Try.prog Try.f10 false true false false) := by
  refine returnsInHanded_of_change (C := Try.checked) Try_own started (by kernel_rfl) Try.func10
    (ChangeSpec.witness6 (enc := enc) (C := Try.checked) false ⟨#[], #[.agg #[.int .i64 0, .slice none 0 0, .slice none 0 0], .int .u16 0, .int .u8 0], []⟩ 8 (by kernel_rfl) (by kernel_rfl) (by kernel_rfl) (by kernel_rfl)) ?_
  intro W base args ds gs before hval0 hW hcnd _
  have hval : ∀ (j : Nat) t v, Try.f10.params[j]? = some t → args[j]? = some v → Value.okWide Try.prog W .any base t v := hval0
  have hW' := hW
  obtain ⟨p, q, hA0, hV, rfl, hfz, hnd⟩ := hW
  have hA : DataW.TrodAll enc Try.prog W 0 (fun _ => true) true Try.f10.params.toList args.toList ds p := hA0
  rw [Try.params10] at hA hval
  obtain ⟨v0, v1, v2, d0, d1, d2, p0, p1, p2, rfl, rfl, hp, h0, h1, h2⟩ := trodAll_three hA
  obtain ⟨rfl, rfl⟩ := trodVars_none hV
  obtain ⟨x0, r0⟩ := rel_slate (hval 0 25 v0 rfl rfl) h0
  obtain ⟨x1, l1, r1⟩ := rel_u16 (hval 1 69 v1 rfl rfl) h1
  obtain ⟨x2, l2, r2⟩ := rel_u8 (hval 2 5 v2 rfl rfl) h2
  refine (sound_lim tbl_ok (k10 x0 x1 l1 x2 l2 St.empty) (sim0 Try.prog W) (args' := #[v0, v1, v2]) ⟨v0, [v1, v2], rfl, r0, ⟨v1, [v2], rfl, r1, ⟨v2, [], rfl, r2, rfl⟩⟩⟩).mono fun e W' he => ?_
  obtain ⟨v', ρ', he, hv, _, hF⟩ := he
  subst he
  have hv : v' = .bool true := hv
  subst hv
  exact ⟨_, rfl, shut_true hW' rfl rfl (by rw [Try.params10]; intro t ht; simp at ht; rcases ht with rfl | rfl | rfl <;> exact ⟨by kernel_rfl, of_decide_eq_true (by kernel_rfl)⟩) rfl rfl rfl hF⟩
theorem order_holds : Ytlhfeiacigmliaa.Rows.SoapOrderSaid :=
  OpenClaim.holds_of_wide 10 Try.f10 rfl rfl rfl rfl rfl rfl rfl ⟨rfl, rfl, rfl, rfl, rfl⟩ rfl rfl rfl rfl rfl (by kernel_rfl) Try.func10 (by kernel_rfl)
    (of_decide_eq_true (by kernel_rfl)) (by unfold Func.isWrapper; first | (rw [if_pos (by decide +kernel)]; kernel_rfl) | (rw [if_neg (by decide +kernel)]; exact ⟨rfl, rfl⟩))
    (fun os started H enc _ => order_lifted os started H enc)
#print axioms order_holds
end Go.Proofs.Ytlhfeiacigmliaa
