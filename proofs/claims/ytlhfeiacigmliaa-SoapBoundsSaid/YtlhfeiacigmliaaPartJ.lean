/- The wash-house's soap: what the functions compute: Settle. -/
import Derived.Test.YtlhfeiacigmliaaPartI
import Derived.Test.YtlhfeiacigmliaaRows
import Derived.ProofKit
set_option linter.all false
namespace Go.Proofs.Ytlhfeiacigmliaa
open Go
set_option maxRecDepth 10000

@[go_sem] theorem frz1_own_cP (n : Nat) (s : St) (sz p : Nat) (l : List Pay) : frz1 n s sz (ownSl cP p l) = some (sl cP l) := frz1_ownSl (fun _ => rfl) ..
theorem app_list {α : Type} {f : α → List AVal} {sz : Nat} (hf : ∀ a, (f a).length = sz) (bytes : Nat) (p : Nat) (q : Nat → Nat) (N : Nat) (O : List AObj) (l l' : List α) (h : (l.length + l'.length) * bytes ≤ 70368744177664) (h' : l.length + l'.length ≤ 70368744177664) :
    appendA sz bytes (ownSl f p l) (sl f l') ⟨N, O, roomP p (lenOf l), roomC p q (lenOf l)⟩ = some (ownSl f p (app l l'), ⟨N, O, roomP p (lenOf (app l l')), roomC p q (lenOf (app l l'))⟩) := by
  have he : elemsA ⟨N, O, roomP p (lenOf l), roomC p q (lenOf l)⟩ sz (sl f l') = some (l'.length, cellsOf f l') := by simp [elemsA, sl, lenOf, cells_length hf]
  unfold appendA
  rw [he]
  simp only [lenOf, app]
  cases l' with
  | nil =>
    rw [List.append_nil]
    simp only [List.length_nil, if_true]
    unfold ownSl
    by_cases hl : l.length = 0
    · simp [hl]
    · simp [hl]
  | cons b l' =>
    simp only [show (b :: l').length ≠ 0 by simp, if_false]
    cases l with
    | nil =>
      simp only [ownSl, roomP, roomC, lenOf, app, List.length_nil, if_true, List.nil_append, show (b :: l').length ≠ 0 by simp, if_false]
      simp only [List.length_nil, Nat.zero_add] at h h'
      rw [if_pos ⟨h, h'⟩]
      rfl
    | cons a l =>
      have hlen : (cellsOf f (a :: l)).length = (a :: l).length * sz := cells_length hf _
      simp only [ownSl, roomP, roomC, lenOf, app, show (a :: l).length ≠ 0 by simp, if_false, List.length_append, show (a :: l).length + (b :: l').length ≠ 0 by simp]
      rw [if_pos ⟨hlen, h, h'⟩]
      simp only [if_true]
      rw [if_pos ⟨trivial, by omega⟩]
      simp only [cells_append, Option.some.injEq, Prod.mk.injEq, true_and]
      simp only [St.grow, St.mk.injEq, true_and]
      funext x
      by_cases hx : x = p <;> simp [hx]
theorem Small.ow {es : List Ent} (w : Int) : ∀ {L : List Int} (n : Int) (B : Int), OkE es → areOz es L = true → -B ≤ n → n ≤ B → B + 80 * es.length ≤ 1000000 → -(B + 80 * es.length) ≤ owedUp n w es L ∧ owedUp n w es L ≤ B + 80 * es.length := by
  induction es with
  | nil =>
    intro L n B _ h h1 h2 h3
    cases L with
    | nil => simp only [owedUp, List.length_nil]; omega
    | cons x L => simp [areOz] at h
  | cons e es ih =>
    intro L n B ho h h1 h2 h3
    cases L with
    | nil => simp [areOz] at h
    | cons x L =>
      simp only [areOz, Bool.and_eq_true] at h
      obtain ⟨hx, h⟩ := h
      rw [within_iff] at hx
      have hoe := ho e (by simp)
      simp only [List.length_cons] at h3 ⊢
      rw [owedUp]
      have key : ∀ n', -(B + 80) ≤ n' → n' ≤ B + 80 → -(B + 80 * ((es.length + 1 : Nat) : Int)) ≤ owedUp n' w es L ∧ owedUp n' w es L ≤ B + 80 * ((es.length + 1 : Nat) : Int) := fun n' g1 g2 => by
        have := ih (L := L) n' (B + 80) (fun e he => ho e (by simp [he])) h g1 g2 (by omega)
        omega
      apply key
      · split <;> split
        · rw [wr_in (n := n + x) (by omega) (by omega), wr_in (by omega) (by omega)]; omega
        · rw [wr_in (n := n - x) (by omega) (by omega)]; omega
        · rw [wr_in (n := n + x) (by omega) (by omega)]; omega
        · omega
      · split <;> split
        · rw [wr_in (n := n + x) (by omega) (by omega), wr_in (by omega) (by omega)]; omega
        · rw [wr_in (n := n - x) (by omega) (by omega)]; omega
        · rw [wr_in (n := n + x) (by omega) (by omega)]; omega
        · omega
theorem small_ow {S : Slate} {L : List Int} (hG : Good S) (h : areOz S.es L = true) : Small (owV S.es L) := fun j => by
  have := Small.ow (es := S.es) (Int.ofNat j) (L := L) 0 0 hG.oe h (by omega) (by omega) (by have := hG.e6; omega)
  have h6 := hG.e6
  unfold owV; omega
/-- The numbers of a group. -/
def nats (l : List Int) : List Nat := l.map Int.toNat
def GrpOk (l : List Int) : Prop := l = ints (nats l) ∧ (∀ j ∈ nats l, j < 6) ∧ (nats l).length < 1000
theorem bits_ok {m : Nat} (h : m < 64) : GrpOk (bitsOf m) := by
  have hmem : ∀ x ∈ bitsOf m, ∃ j : Nat, j < 6 ∧ x = Int.ofNat j := by
    intro x hx
    unfold bitsOf upto at hx
    rw [List.mem_flatMap] at hx
    obtain ⟨j, _, hj⟩ := hx
    unfold bitF at hj
    split at hj
    · rename_i hb
      simp only [List.mem_singleton] at hj
      refine ⟨j, ?_, hj⟩
      rcases Nat.lt_or_ge j 6 with h1 | h1
      · exact h1
      · exfalso
        have : bshr m j = 0 := bshr_0 (Nat.lt_of_lt_of_le h (Nat.pow_le_pow_right (n := 2) (i := 6) (by omega) h1))
        rw [this] at hb; simp [bmod] at hb
    · simp at hj
  refine ⟨?_, ?_, ?_⟩
  · unfold ints nats
    rw [List.map_map]
    symm
    have : (bitsOf m).map (Int.ofNat ∘ Int.toNat) = (bitsOf m).map id := by
      apply List.map_congr_left
      intro x hx
      obtain ⟨j, _, rfl⟩ := hmem x hx
      rfl
    rw [this, List.map_id]
  · intro j hj
    unfold nats at hj
    rw [List.mem_map] at hj
    obtain ⟨x, hx, rfl⟩ := hj
    obtain ⟨j, h1, rfl⟩ := hmem x hx
    exact h1
  · unfold nats; rw [List.length_map]; have := bitsOf_len m; omega
theorem grp_ok (a : Nat → Int) : ∀ (f w g : Nat), w < 64 → g < 64 → ∀ l ∈ grp a f w g, GrpOk l
  | 0, _, _, _, _ => by simp [grp]
  | f + 1, w, g, hw, hg => by
    intro l hl
    rw [grp] at hl
    by_cases h0 : w = 0
    · rw [if_pos h0] at hl; simp at hl
    · rw [if_neg h0] at hl
      obtain ⟨x, hx, hx6, hlt⟩ := findI_ok a h0 hw
      rw [hx] at hl
      simp only at hl
      have hg' := bor_64 hg hx6
      split at hl
      · simp only [List.mem_cons] at hl
        rcases hl with hl | hl
        · subst hl; exact bits_ok hg'
        · exact grp_ok a f _ _ (by omega) (by omega) l hl
      · exact grp_ok a f _ _ (by omega) hg' l hl
theorem groups_ok (a : Nat → Int) : ∀ l ∈ groupsA a, GrpOk l := grp_ok a 64 _ _ (openN_lt a) (by omega)
theorem grp_len (a : Nat → Int) : ∀ (f w g : Nat), (grp a f w g).length ≤ f
  | 0, _, _ => by simp [grp]
  | f + 1, w, g => by
    rw [grp]
    split
    · simp
    · split
      · simp
      · split
        · simp only [List.length_cons]; exact Nat.succ_le_succ (grp_len a f _ 0)
        · exact Nat.le_succ_of_le (grp_len a f _ _)
theorem settleF_len : ∀ (f : Nat) (a : Nat → Int) (gs : List Nat), (settleF f a gs).length ≤ f
  | 0, _, _ => by simp [settleF]
  | f + 1, a, gs => by
    rw [settleF]
    split
    · simp only [List.length_cons]; exact Nat.succ_le_succ (settleF_len f _ gs)
    · simp
def settleG (a : Nat → Int) (g : List Int) : List Pay := settleF 1000 a (nats g)
def settleA (a : Nat → Int) : List Pay := (groupsA a).flatMap (settleG a)
theorem l53 (a : Nat → Int) (m : Nat) (hs : Small a) (G : List (List Int)) (hG : ∀ l ∈ G, GrpOk l) (hGl : G.length ≤ 64) (r : Nat) (N : Nat) (O : List AObj) (p : Nat) (q : Nat → Nat) : ∀ (k i : Nat) (acc : List Pay), i + k = G.length → acc.length ≤ i * 1000 →
    lim tbl (.loop a53_l0 37 ⟨[8, 9, 24, 25, 26], [8], []⟩ [ownSl cP p acc, .vref (c7 a m), ownSl cL r G, i64 (Int.ofNat (lenOf G)), i64 (Int.ofNat i)]) ⟨N, O, roomP p (lenOf acc), roomC p q (lenOf acc)⟩
      = some (.exit 0, [ownSl cP p (app acc ((G.drop i).flatMap (settleG a)))], ⟨N, O, roomP p (lenOf (app acc ((G.drop i).flatMap (settleG a)))), roomC p q (lenOf (app acc ((G.drop i).flatMap (settleG a))))⟩) := by
  intro k
  induction k with
  | zero =>
    intro i acc hi ha
    rw [List.drop_eq_nil_of_le (by omega), List.flatMap_nil, app_nil, lim_loop]
    (try simp only [go_sem, ↓reduceIte, Nat.reduceAdd, Nat.reduceEqDiff, Nat.reduceLT, Nat.reduceLeDiff, Nat.reduceBEq, Int.reduceEq, Int.reduceLT, Int.reduceLE]); (repeat ((first | (rw [lt_yes]; rotate_left; (first | omega | (simp [lenOf, app]; omega) | (simp only [lenOf]; omega))) | (rw [lt_no]; rotate_left; (first | omega | (simp [lenOf, app]; omega) | (simp only [lenOf]; omega))) | (rw [idxA_at]; rotate_left; (first | omega | (simp [lenOf, app]; omega) | (simp only [lenOf]; omega))) | (rw [wr_up]; rotate_left; (first | omega | (simp [lenOf, app]; omega) | (simp only [lenOf]; omega))) | ((first | rw [drop_cI] | rw [drop_cE] | rw [drop_cS] | rw [drop_cP] | rw [drop_cR]); rotate_left; assumption)); try simp only [go_sem, ↓reduceIte, Nat.reduceAdd, Nat.reduceEqDiff, Nat.reduceLT, Nat.reduceLeDiff, Nat.reduceBEq, Int.reduceEq, Int.reduceLT, Int.reduceLE]))
  | succ k ih =>
    intro i acc hi ha
    have hlt : i < G.length := by omega
    obtain ⟨g, hg, hd⟩ := getElem_drop hlt
    have hd' := drop_cL hg
    obtain ⟨h1, h2, h3⟩ := hG g (List.mem_of_getElem? hg)
    have h91 := fun s => k91 a m (nats g) h2 h3 hs s
    rw [← h1] at h91
    change ∀ s, _ = some (_, [sl cP (settleG a g)], s) at h91
    have hl := settleF_len 1000 a (nats g)
    change (settleG a g).length ≤ 1000 at hl
    have happ := app_list (f := cP) (sz := 3) (fun _ => rfl) 24 p q N O acc (settleG a g) (by omega) (by omega)
    have h' := ih (i + 1) (app acc (settleG a g)) (by omega) (by simp [app]; omega)
    rw [hd, List.flatMap_cons, app_app, lim_loop]
    generalize settleG a g = V at h91 happ h' ⊢
    generalize hR : some (_, _, _) = R at h' ⊢
    (try simp only [go_sem, ↓reduceIte, Nat.reduceAdd, Nat.reduceEqDiff, Nat.reduceLT, Nat.reduceLeDiff, Nat.reduceBEq, Int.reduceEq, Int.reduceLT, Int.reduceLE]); (repeat ((first | rw [hd'] | simp only [h91] | rw [happ] | (rw [lt_yes]; rotate_left; (first | omega | (simp [lenOf, app]; omega) | (simp only [lenOf]; omega))) | (rw [lt_no]; rotate_left; (first | omega | (simp [lenOf, app]; omega) | (simp only [lenOf]; omega))) | (rw [idxA_at]; rotate_left; (first | omega | (simp [lenOf, app]; omega) | (simp only [lenOf]; omega))) | (rw [wr_up]; rotate_left; (first | omega | (simp [lenOf, app]; omega) | (simp only [lenOf]; omega))) | ((first | rw [drop_cI] | rw [drop_cE] | rw [drop_cS] | rw [drop_cP] | rw [drop_cR]); rotate_left; assumption)); try simp only [go_sem, ↓reduceIte, Nat.reduceAdd, Nat.reduceEqDiff, Nat.reduceLT, Nat.reduceLeDiff, Nat.reduceBEq, Int.reduceEq, Int.reduceLT, Int.reduceLE]))
    exact h'
/-- What Settle returns. -/
def settleP (S : Slate) (L : List Int) : List Pay := if playErr S L = 0 then settleA (playOw S L) else []
theorem k53 (S : Slate) (L : List Int) (s : St) : lim tbl (.call 53 [vSl S, sl cI L]) s = some (.ret, [.tup [sl cP (settleP S L), i64 (playErr S L)]], s) := by
  have h79 := fun s => k79 S L good_of_check s
  rw [lim_call tbl_53]
  by_cases he : playErr S L = 0
  · have hb : settleP S L = settleA (playOw S L) := by simp [settleP, he]
    have hc := play_check he
    have hs : Small (playOw S L) := by
      unfold playErr at he
      rw [if_neg (by simp [hc])] at he
      split at he
      · rename_i ho
        rw [playOw, if_pos ⟨hc, ho⟩]; exact small_ow (good_of_check hc) ho
      · cases he
    rw [hb, he]
    rw [he] at h79
    generalize playOw S L = a at h79 hs ⊢
    obtain ⟨N, O, p, q⟩ := s
    have h80 := k80 a (na N 1) (.cells (c6 a) :: O) p q
    obtain ⟨M', Q', hE, h81⟩ := k81 a (na N 1) p q (na (na N 1) 1) (.map true [] :: .cells (c6 a) :: O) (fun x hx => by
      simp only [List.mem_singleton] at hx; subst hx
      exact ⟨[], gO_new .., fun y hy => by simp at hy⟩)
    have hgl := grp_len a 64 (openN a) 0
    change (groupsA a).length ≤ 64 at hgl
    have h0 := l53 a (na N 1) hs (groupsA a) (groups_ok a) hgl p M' Q' (roomP p (lenOf (groupsA a))) (roomC p q (lenOf (groupsA a))) (groupsA a).length 0 [] (by omega) (by simp)
    rw [List.drop_zero, nil_app, ownSl_nil, show lenOf ([] : List Pay) = 0 from rfl, roomP_0, roomC_0, ofNat_0] at h0
    change _ = some (_, [ownSl cP _ (settleA a)], (⟨_, _, roomP _ (lenOf (settleA a)), roomC _ _ (lenOf (settleA a))⟩ : St)) at h0
    have ho := hE.old N O (by simp [na]) (((OldO.refl N O).push _).push _)
    generalize settleA a = V at h0 ⊢
    generalize groupsA a = G at h81 h0
    have hold : Ytlhfeiacigmliaa.old ⟨N, O, p, q⟩ ⟨M', Q', roomP (roomP p (lenOf G)) (lenOf V), roomC (roomP p (lenOf G)) (roomC p q (lenOf G)) (lenOf V)⟩ = true := by
      simp only [Ytlhfeiacigmliaa.old, decide_eq_true_eq]
      exact ⟨ho.1, ho.2, fun x hx => roomC_old2 p q _ _ x hx⟩
    obtain ⟨w, es, ss⟩ := S
    (try simp only [go_sem, ↓reduceIte, Nat.reduceAdd, Nat.reduceEqDiff, Nat.reduceLT, Nat.reduceLeDiff, Nat.reduceBEq, Int.reduceEq, Int.reduceLT, Int.reduceLE]); (repeat ((first | simp only [h79] | rw [h80] | rw [h81] | rw [h0] | rw [hold] | (rw [lt_yes]; rotate_left; (first | omega | (simp [lenOf, app]; omega) | (simp only [lenOf]; omega))) | (rw [lt_no]; rotate_left; (first | omega | (simp [lenOf, app]; omega) | (simp only [lenOf]; omega))) | (rw [idxA_at]; rotate_left; (first | omega | (simp [lenOf, app]; omega) | (simp only [lenOf]; omega))) | (rw [wr_up]; rotate_left; (first | omega | (simp [lenOf, app]; omega) | (simp only [lenOf]; omega))) | ((first | rw [drop_cI] | rw [drop_cE] | rw [drop_cS] | rw [drop_cP] | rw [drop_cR]); rotate_left; assumption)); try simp only [go_sem, ↓reduceIte, Nat.reduceAdd, Nat.reduceEqDiff, Nat.reduceLT, Nat.reduceLeDiff, Nat.reduceBEq, Int.reduceEq, Int.reduceLT, Int.reduceLE]))
  · have hb : settleP S L = [] := by simp [settleP, he]
    rw [hb]
    generalize playErr S L = e at h79 he ⊢
    generalize playOw S L = A at h79 ⊢
    obtain ⟨w, es, ss⟩ := S
    obtain ⟨N, O, p, q⟩ := s
    (try simp only [go_sem, ↓reduceIte, Nat.reduceAdd, Nat.reduceEqDiff, Nat.reduceLT, Nat.reduceLeDiff, Nat.reduceBEq, Int.reduceEq, Int.reduceLT, Int.reduceLE]); (repeat ((first | simp only [h79] | rw [eq_n he] | (rw [lt_yes]; rotate_left; (first | omega | (simp [lenOf, app]; omega) | (simp only [lenOf]; omega))) | (rw [lt_no]; rotate_left; (first | omega | (simp [lenOf, app]; omega) | (simp only [lenOf]; omega))) | (rw [idxA_at]; rotate_left; (first | omega | (simp [lenOf, app]; omega) | (simp only [lenOf]; omega))) | (rw [wr_up]; rotate_left; (first | omega | (simp [lenOf, app]; omega) | (simp only [lenOf]; omega))) | ((first | rw [drop_cI] | rw [drop_cE] | rw [drop_cS] | rw [drop_cP] | rw [drop_cR]); rotate_left; assumption)); try simp only [go_sem, ↓reduceIte, Nat.reduceAdd, Nat.reduceEqDiff, Nat.reduceLT, Nat.reduceLeDiff, Nat.reduceBEq, Int.reduceEq, Int.reduceLT, Int.reduceLE]))
end Go.Proofs.Ytlhfeiacigmliaa

/- The wash-house's soap: what the functions compute: the document's first examples. -/
namespace Go.Proofs.Ytlhfeiacigmliaa
open Go
set_option maxRecDepth 10000

@[go_sem] theorem repl_12 (a : AVal) : List.replicate 12 a = [a, a, a, a, a, a, a, a, a, a, a, a] := (rfl)
/-- A function that forgets takes its arguments in their normal form. -/
theorem call_norm {T : Nat → Option AFun} {k : Nat} {F : AFun} (h : T k = some F) {sz : Nat} (hg : F.gc = some sz) {args args' : List AVal} (hn : norms args = norms args') (s : St) : lim T (.call k args) s = lim T (.call k args') s := by
  rw [lim_call h, lim_call h, hg, frameV_some, frameV_some, hn]
def fourS (k : Nat) : Slate := ⟨4, [⟨0, 1, ⟨2, 3⟩⟩, ⟨1, 2, ⟨2, 2⟩⟩, ⟨3, 2, ⟨1, 4⟩⟩], ([⟨2, ⟨-4, -3⟩⟩, ⟨1, ⟨-1, -1⟩⟩, ⟨0, ⟨2, 2⟩⟩] : List Say).take k⟩
@[go_sem] theorem k72 (a b : Int) (s : St) : lim tbl (.call 72 [i64 a, i64 b]) s = some (.ret, [.agg [i64 a, i64 b]], s) := by
  rw [lim_call tbl_72]; obtain ⟨N, O, p, q⟩ := s
  (try simp only [go_sem, ↓reduceIte, Nat.reduceAdd, Nat.reduceEqDiff, Nat.reduceLT, Nat.reduceLeDiff, Nat.reduceBEq, Int.reduceEq, Int.reduceLT, Int.reduceLE]); (repeat ((first | (rw [lt_yes]; rotate_left; (first | omega | (simp [lenOf, app]; omega) | (simp only [lenOf]; omega))) | (rw [lt_no]; rotate_left; (first | omega | (simp [lenOf, app]; omega) | (simp only [lenOf]; omega))) | (rw [idxA_at]; rotate_left; (first | omega | (simp [lenOf, app]; omega) | (simp only [lenOf]; omega))) | (rw [wr_up]; rotate_left; (first | omega | (simp [lenOf, app]; omega) | (simp only [lenOf]; omega))) | ((first | rw [drop_cI] | rw [drop_cE] | rw [drop_cS] | rw [drop_cP] | rw [drop_cR]); rotate_left; assumption)); try simp only [go_sem, ↓reduceIte, Nat.reduceAdd, Nat.reduceEqDiff, Nat.reduceLT, Nat.reduceLeDiff, Nat.reduceBEq, Int.reduceEq, Int.reduceLT, Int.reduceLE]))
section
variable (a b d e f g h i j : AVal) (pm : Perm)
theorem hi9_0 : sliceHi 3 (.vsl [a, b, d, e, f, g, h, i, j] 3 pm) (i64 0) = some (.vsl [] 0 .no) := rfl
theorem hi9_1 : sliceHi 3 (.vsl [a, b, d, e, f, g, h, i, j] 3 pm) (i64 1) = some (.vsl [a, b, d] 1 .no) := rfl
theorem hi9_2 : sliceHi 3 (.vsl [a, b, d, e, f, g, h, i, j] 3 pm) (i64 2) = some (.vsl [a, b, d, e, f, g] 2 .no) := rfl
theorem hi9_3 : sliceHi 3 (.vsl [a, b, d, e, f, g, h, i, j] 3 pm) (i64 3) = some (.vsl [a, b, d, e, f, g, h, i, j] 3 .no) := rfl
end
theorem k71_0 (s : St) : lim tbl (.call 71 [i64 0]) s = some (.ret, [vSl (fourS 0)], s) := by
  rw [lim_call tbl_71]; obtain ⟨N, O, p, q⟩ := s
  (try simp only [go_sem, ↓reduceIte, Nat.reduceAdd, Nat.reduceEqDiff, Nat.reduceLT, Nat.reduceLeDiff, Nat.reduceBEq, Int.reduceEq, Int.reduceLT, Int.reduceLE]); (repeat ((first | rw [hi9_0] | (rw [lt_yes]; rotate_left; (first | omega | (simp [lenOf, app]; omega) | (simp only [lenOf]; omega))) | (rw [lt_no]; rotate_left; (first | omega | (simp [lenOf, app]; omega) | (simp only [lenOf]; omega))) | (rw [idxA_at]; rotate_left; (first | omega | (simp [lenOf, app]; omega) | (simp only [lenOf]; omega))) | (rw [wr_up]; rotate_left; (first | omega | (simp [lenOf, app]; omega) | (simp only [lenOf]; omega))) | ((first | rw [drop_cI] | rw [drop_cE] | rw [drop_cS] | rw [drop_cP] | rw [drop_cR]); rotate_left; assumption)); try simp only [go_sem, ↓reduceIte, Nat.reduceAdd, Nat.reduceEqDiff, Nat.reduceLT, Nat.reduceLeDiff, Nat.reduceBEq, Int.reduceEq, Int.reduceLT, Int.reduceLE]))
  rfl
theorem k71_1 (s : St) : lim tbl (.call 71 [i64 1]) s = some (.ret, [vSl (fourS 1)], s) := by
  rw [lim_call tbl_71]; obtain ⟨N, O, p, q⟩ := s
  (try simp only [go_sem, ↓reduceIte, Nat.reduceAdd, Nat.reduceEqDiff, Nat.reduceLT, Nat.reduceLeDiff, Nat.reduceBEq, Int.reduceEq, Int.reduceLT, Int.reduceLE]); (repeat ((first | rw [hi9_1] | (rw [lt_yes]; rotate_left; (first | omega | (simp [lenOf, app]; omega) | (simp only [lenOf]; omega))) | (rw [lt_no]; rotate_left; (first | omega | (simp [lenOf, app]; omega) | (simp only [lenOf]; omega))) | (rw [idxA_at]; rotate_left; (first | omega | (simp [lenOf, app]; omega) | (simp only [lenOf]; omega))) | (rw [wr_up]; rotate_left; (first | omega | (simp [lenOf, app]; omega) | (simp only [lenOf]; omega))) | ((first | rw [drop_cI] | rw [drop_cE] | rw [drop_cS] | rw [drop_cP] | rw [drop_cR]); rotate_left; assumption)); try simp only [go_sem, ↓reduceIte, Nat.reduceAdd, Nat.reduceEqDiff, Nat.reduceLT, Nat.reduceLeDiff, Nat.reduceBEq, Int.reduceEq, Int.reduceLT, Int.reduceLE]))
  rfl
theorem k71_3 (s : St) : lim tbl (.call 71 [i64 3]) s = some (.ret, [vSl (fourS 3)], s) := by
  rw [lim_call tbl_71]; obtain ⟨N, O, p, q⟩ := s
  (try simp only [go_sem, ↓reduceIte, Nat.reduceAdd, Nat.reduceEqDiff, Nat.reduceLT, Nat.reduceLeDiff, Nat.reduceBEq, Int.reduceEq, Int.reduceLT, Int.reduceLE]); (repeat ((first | rw [hi9_3] | (rw [lt_yes]; rotate_left; (first | omega | (simp [lenOf, app]; omega) | (simp only [lenOf]; omega))) | (rw [lt_no]; rotate_left; (first | omega | (simp [lenOf, app]; omega) | (simp only [lenOf]; omega))) | (rw [idxA_at]; rotate_left; (first | omega | (simp [lenOf, app]; omega) | (simp only [lenOf]; omega))) | (rw [wr_up]; rotate_left; (first | omega | (simp [lenOf, app]; omega) | (simp only [lenOf]; omega))) | ((first | rw [drop_cI] | rw [drop_cE] | rw [drop_cS] | rw [drop_cP] | rw [drop_cR]); rotate_left; assumption)); try simp only [go_sem, ↓reduceIte, Nat.reduceAdd, Nat.reduceEqDiff, Nat.reduceLT, Nat.reduceLeDiff, Nat.reduceBEq, Int.reduceEq, Int.reduceLT, Int.reduceLE]))
  rfl
theorem x52 (s : St) : lim tbl (.call 52 [vSl (fourS 0), .vsl [i64 3, i64 2, i64 1] 3 .full]) s = some (.ret, [.tup [sl cI [3, -1, -3, 1], i64 0]], s) := by
  have h1 : playL (fourS 0) [3, 2, 1] = [3, -1, -3, 1] := by kernel_rfl
  have h2 : playErr (fourS 0) [3, 2, 1] = 0 := by kernel_rfl
  have h := k52 (fourS 0) [3, 2, 1] good_of_check s
  rw [h1, h2] at h
  rw [← h]
  exact call_norm tbl_52 rfl (by kernel_rfl) s
theorem x23 (s : St) : lim tbl (.call 23 [vSl (fourS 1)]) s = some (.ret, [.tup [.vsl [i64 2, i64 3, i64 (-1), i64 0, i64 (-4), i64 (-3), i64 1, i64 2] 4 .no, i64 0]], s) := by
  have h1 : boundsL (fourS 1) = [⟨2, 3⟩, ⟨-1, 0⟩, ⟨-4, -3⟩, ⟨1, 2⟩] := by kernel_rfl
  have h2 : askedErr (fourS 1) = 0 := by kernel_rfl
  have h := k23 (fourS 1) s
  rw [h1, h2] at h
  exact h
theorem x25 (s : St) : lim tbl (.call 25 [vSl (fourS 0)]) s = some (.ret, [.tup [sl cI [2, 3, 1, 2], i64 0]], s) := by
  have h1 : (boundsL (fourS 0)).map owesF = [2, 3, 1, 2] := by kernel_rfl
  have h2 : askedErr (fourS 0) = 0 := by kernel_rfl
  have h := k25 (fourS 0) s
  rw [h1, h2] at h
  exact h
theorem x53 (s : St) : lim tbl (.call 53 [vSl (fourS 0), .vsl [i64 2, i64 2, i64 4] 3 .full]) s = some (.ret, [.tup [sl cP [⟨2, 0, 2⟩, ⟨2, 3, 4⟩], i64 0]], s) := by
  have h1 : settleP (fourS 0) [2, 2, 4] = [⟨2, 0, 2⟩, ⟨2, 3, 4⟩] := by kernel_rfl
  have h2 : playErr (fourS 0) [2, 2, 4] = 0 := by kernel_rfl
  have h := k53 (fourS 0) [2, 2, 4] s
  rw [h1, h2] at h
  rw [← h]
  exact call_norm tbl_53 rfl (by kernel_rfl) s
theorem x30 (s : St) : lim tbl (.call 30 [vSl (fourS 0), .vsl [i64 3, i64 2, i64 1] 3 .full]) s = some (.ret, [.tup [sl cL [[0, 2], [1, 3]], i64 0]], s) := by
  have h1 : groupsP (fourS 0) [3, 2, 1] = [[0, 2], [1, 3]] := by kernel_rfl
  have h2 : playErr (fourS 0) [3, 2, 1] = 0 := by kernel_rfl
  have h := k30 (fourS 0) [3, 2, 1] s
  rw [h1, h2] at h
  rw [← h]
  exact call_norm tbl_30 rfl (by kernel_rfl) s
theorem x38 (s : St) : lim tbl (.call 38 [vSl (fourS 0)]) s = some (.ret, [.tup [.agg [i64 2, i64 3], i64 0]], s) := by
  have h1 : fewestP (fourS 0) = (2, 3) := by kernel_rfl
  have h2 : askedErr (fourS 0) = 0 := by kernel_rfl
  have h := k38 (fourS 0) s
  rw [h1, h2] at h
  exact h
theorem x40 (s : St) : lim tbl (.call 40 [vSl (fourS 3)]) s = some (.ret, [.tup [i64 2, i64 0]], s) := by
  have h1 : firstA (fourS 3) = 2 := by kernel_rfl
  have h2 : firstE (fourS 3) = 0 := by kernel_rfl
  have h := k40 (fourS 3) s
  rw [h1, h2] at h
  exact h
theorem x41 (s : St) : lim tbl (.call 41 [vSl (fourS 3)]) s = some (.ret, [.tup [sl cI [1], i64 0]], s) := by
  have h1 : leaveL (fourS 3) = [1] := by kernel_rfl
  have h2 : checkSlate (fourS 3) = 0 := by kernel_rfl
  have h := k41 (fourS 3) s
  rw [h1, h2] at h
  exact h
theorem x43 (a : List Int) (cs : List AVal) (n : Nat) (h : sl cI a = .vsl cs n .no) (hn : norms cs = cs) (hl : a.length < 1000) (s : St) : lim tbl (.call 43 [sl cI a, .vsl cs n .full]) s = some (.ret, [.bool true], s) := by
  have h1 := k43 a a (by omega) s
  have h2 : sameL a a = true := by simp [sameL]
  rw [h2] at h1
  rw [← h1]
  refine call_norm tbl_43 rfl ?_ s
  rw [h]; simp [norms, AVal.norm, hn]
/-- The document's first examples are returned. -/
theorem k22 (s : St) : lim tbl (.call 22 []) s = some (.ret, [.bool true], s) := by
  have a1 := fun s => x43 [3, -1, -3, 1] [i64 3, i64 (-1), i64 (-3), i64 1] 4 rfl rfl (by simp) s
  have a2 := fun s => x43 [2, 3, 1, 2] [i64 2, i64 3, i64 1, i64 2] 4 rfl rfl (by simp) s
  have a3 := fun s => x43 [1] [i64 1] 1 rfl rfl (by simp) s
  have l2 : lenOf ([⟨2, 0, 2⟩, ⟨2, 3, 4⟩] : List Pay) = 2 := rfl
  have l3 : lenOf ([[0, 2], [1, 3]] : List (List Int)) = 2 := rfl
  rw [lim_call tbl_22]; obtain ⟨N, O, p, q⟩ := s
  (try simp only [go_sem, ↓reduceIte, Nat.reduceAdd, Nat.reduceEqDiff, Nat.reduceLT, Nat.reduceLeDiff, Nat.reduceBEq, Int.reduceEq, Int.reduceLT, Int.reduceLE]); (repeat ((first | simp only [k71_0, k71_1, k71_3] | simp only [x52, x23, x25, x53, x30, x38, x40, x41] | simp only [a1, a2, a3] | rw [l2] | rw [l3] | (rw [lt_yes]; rotate_left; (first | omega | (simp [lenOf, app]; omega) | (simp only [lenOf]; omega))) | (rw [lt_no]; rotate_left; (first | omega | (simp [lenOf, app]; omega) | (simp only [lenOf]; omega))) | (rw [idxA_at]; rotate_left; (first | omega | (simp [lenOf, app]; omega) | (simp only [lenOf]; omega))) | (rw [wr_up]; rotate_left; (first | omega | (simp [lenOf, app]; omega) | (simp only [lenOf]; omega))) | ((first | rw [drop_cI] | rw [drop_cE] | rw [drop_cS] | rw [drop_cP] | rw [drop_cR]); rotate_left; assumption)); try simp only [go_sem, ↓reduceIte, Nat.reduceAdd, Nat.reduceEqDiff, Nat.reduceLT, Nat.reduceLeDiff, Nat.reduceBEq, Int.reduceEq, Int.reduceLT, Int.reduceLE]))
end Go.Proofs.Ytlhfeiacigmliaa

/- The wash-house's soap, plain law: all ounces are gone through by the program as by the document; which sayings are right together. -/
namespace Go.Proofs.Ytlhfeiacigmliaa
open Go
set_option maxRecDepth 10000

/-! all ounces, listed twice -/
theorem mem_rngUp {x : Int} : ∀ {m : Nat} {v : Int}, x ∈ rngUp v m ↔ v ≤ x ∧ x < v + m
  | 0, v => by simp [rngUp]
  | m + 1, v => by
    rw [rngUp, List.mem_cons, mem_rngUp]
    push_cast
    omega
theorem mem_ozs : ∀ {es : List Ent} {L : List Int}, OkE es → (L ∈ ozs es ↔ areOz es L = true)
  | [], L, _ => by
    cases L with
    | nil => simp [ozs, areOz]
    | cons a L => simp [ozs, areOz]
  | e :: es, L, h => by
    have ih := fun L => mem_ozs (es := es) (L := L) fun e he => h e (by simp [he])
    have he := h e (by simp)
    rw [ozs, List.mem_flatMap]
    constructor
    · rintro ⟨v, hv, hL⟩
      rw [List.mem_map] at hL
      obtain ⟨L', h1, rfl⟩ := hL
      rw [mem_rngUp] at hv
      simp only [areOz, Bool.and_eq_true, within_iff]
      refine ⟨?_, (ih L').1 h1⟩
      unfold szN at hv; omega
    · intro hL
      cases L with
      | nil => simp [areOz] at hL
      | cons v L =>
        simp only [areOz, Bool.and_eq_true, within_iff] at hL
        refine ⟨v, ?_, List.mem_map.2 ⟨L, (ih L).2 hL.2, rfl⟩⟩
        rw [mem_rngUp]; unfold szN; omega
theorem nth_areOz : ∀ {es : List Ent} (_ : OkE es) (n : Nat), areOz es (nthRef es n) = true
  | [], _, n => rfl
  | e :: es, h, n => by
    have he := h e (by simp)
    have hp := szN_pos he.2.1
    rw [nthRef]
    simp only [areOz, Bool.and_eq_true, within_iff]
    refine ⟨?_, nth_areOz (fun e he => h e (by simp [he])) _⟩
    have hm : n % szN e.oz.lo e.oz.hi < szN e.oz.lo e.oz.hi := Nat.mod_lt _ (Nat.pos_of_ne_zero hp)
    unfold bmod
    simp only [Int.ofNat_eq_natCast]
    have : ((szN e.oz.lo e.oz.hi : Nat) : Int) = e.oz.hi - e.oz.lo + 1 := by unfold szN; omega
    omega
theorem areOz_nth : ∀ {es : List Ent} (_ : OkE es) {L : List Int}, areOz es L = true → ∃ n, n < prodN es ∧ nthRef es n = L
  | [], _, L, h => by
    cases L with
    | nil => exact ⟨0, by simp [prodN], rfl⟩
    | cons a L => simp [areOz] at h
  | e :: es, ho, L, h => by
    cases L with
    | nil => simp [areOz] at h
    | cons v L =>
      simp only [areOz, Bool.and_eq_true, within_iff] at h
      have he := ho e (by simp)
      have hp := szN_pos he.2.1
      obtain ⟨n, hn, hL⟩ := areOz_nth (fun e he => ho e (by simp [he])) h.2
      have hsz : ((szN e.oz.lo e.oz.hi : Nat) : Int) = e.oz.hi - e.oz.lo + 1 := by unfold szN; omega
      obtain ⟨k, hk⟩ : ∃ k : Nat, v = e.oz.lo + (k : Int) := ⟨(v - e.oz.lo).toNat, by omega⟩
      have hkl : k < szN e.oz.lo e.oz.hi := by omega
      generalize hz : szN e.oz.lo e.oz.hi = z at *
      refine ⟨k + z * n, ?_, ?_⟩
      · rw [prodN, hz]
        have : z * n + z ≤ z * prodN es := by
          have := Nat.mul_le_mul_left z (show n + 1 ≤ prodN es by omega)
          rwa [Nat.mul_add, Nat.mul_one] at this
        omega
      · rw [nthRef, hz]
        have h1 : bmod (k + z * n) z = k := by unfold bmod; rw [Nat.add_mul_mod_self_left, Nat.mod_eq_of_lt hkl]
        have h2 : (k + z * n) / z = n := by rw [Nat.add_mul_div_left _ _ (by omega), Nat.div_eq_of_lt hkl]; omega
        rw [h1, h2, hL, hk]; rfl

/-! which sayings are right -/
theorem bor_test (a i j : Nat) : (bor a (pw i)).testBit j = (a.testBit j || decide (i = j)) := by
  unfold bor pw; rw [Nat.testBit_or, Nat.testBit_two_pow]
theorem orUp_test (P : Say → Bool) : ∀ (l : List Say) (n i j : Nat), (orUp P n i l).testBit j = (n.testBit j || (decide (i ≤ j) && (match l[j - i]? with | some x => P x | none => false)))
  | [], n, i, j => by simp [orUp]
  | x :: l, n, i, j => by
    rw [orUp, orUp_test P l]
    by_cases hij : i = j
    · subst hij
      have h1 : ¬ i + 1 ≤ i := by omega
      simp only [h1, decide_false, Bool.false_and, Bool.or_false, Nat.le_refl, decide_true, Bool.true_and, Nat.sub_self, List.getElem?_cons_zero]
      cases hx : P x with
      | true => simp [bor_test]
      | false => simp
    · have h0 : (if P x then bor n (pw i) else n).testBit j = n.testBit j := by
        cases P x with
        | true => simp [bor_test, hij]
        | false => rfl
      rw [h0]
      by_cases hlt : i < j
      · have h1 : j - i = (j - (i + 1)) + 1 := by omega
        have h2 : i + 1 ≤ j := hlt
        have h3 : i ≤ j := by omega
        rw [h1]; simp [h2, h3]
      · have h2 : ¬ i + 1 ≤ j := by omega
        have h3 : ¬ i ≤ j := by omega
        simp [h2, h3]
/-- A saying is right by its bit. -/
theorem rightN_test (S : Slate) (L : List Int) (j : Nat) : (rightN S L).testBit j = (match S.ss[j]? with | some x => rightOk S.es L x | none => false) := by
  unfold rightN
  rw [orUp_test]; simp
theorem band_iff (a m : Nat) : band a m = m ↔ ∀ i, m.testBit i = true → a.testBit i = true := by
  unfold band
  constructor
  · intro h i hi
    have := congrArg (fun x => x.testBit i) h
    simp only [Nat.testBit_and, hi, Bool.and_true] at this
    exact this
  · intro h
    apply Nat.eq_of_testBit_eq
    intro i
    rw [Nat.testBit_and]
    cases hm : m.testBit i with
    | false => simp
    | true => simp [h i hm]
theorem hasI_iff (L : List Int) (i : Nat) : hasI L (Int.ofNat i) = true ↔ Int.ofNat i ∈ L := by
  simp [hasI]
theorem rightUp_iff (a : Nat → Int) (out : List Int) : ∀ (l : List Say) (i : Nat), rightUp a out i l = true ↔ ∀ j x, l[j]? = some x → (Int.ofNat (i + j) ∈ out ∨ within (a x.w.toNat) x.ow.lo x.ow.hi = true)
  | [], i => by simp [rightUp]
  | x :: l, i => by
    rw [rightUp]
    simp only [Bool.and_eq_true, Bool.or_eq_true, hasI_iff]
    rw [rightUp_iff a out l (i + 1)]
    constructor
    · rintro ⟨h1, h2⟩ j y hy
      cases j with
      | zero => simp only [List.getElem?_cons_zero, Option.some.injEq] at hy; subst hy; exact h1
      | succ j =>
        have := h2 j y (by simpa using hy)
        rwa [show i + (j + 1) = i + 1 + j by omega]
    · intro h
      refine ⟨h 0 x rfl, fun j y hy => ?_⟩
      have := h (j + 1) y (by simpa using hy)
      rwa [show i + (j + 1) = i + 1 + j by omega] at this
/-- The numbers of all ounces' right sayings. -/
def allN (S : Slate) : List Nat := (List.range' 0 (prodN S.es)).map fun n => rightN S (nthRef S.es n)
theorem allRef_eq (S : Slate) : allRef S (prodN S.es) = ints (allN S) := by
  unfold allRef upto allN ints
  rw [List.map_map]
  induction List.range' 0 (prodN S.es) with
  | nil => rfl
  | cons n l ih => rw [List.flatMap_cons, ih]; rfl
theorem can_iff {S : Slate} (hG : Good S) (m : Nat) : can (allN S) m = true ↔ ∃ L, areOz S.es L = true ∧ ∀ i, m.testBit i = true → (rightN S L).testBit i = true := by
  unfold can anyB allN
  rw [List.any_eq_true]
  constructor
  · rintro ⟨a, ha, hb⟩
    rw [List.mem_map] at ha
    obtain ⟨n, _, rfl⟩ := ha
    exact ⟨_, nth_areOz hG.oe n, (band_iff _ _).1 (of_decide_eq_true hb)⟩
  · rintro ⟨L, hL, hb⟩
    obtain ⟨n, hn, rfl⟩ := areOz_nth hG.oe hL
    exact ⟨_, List.mem_map.2 ⟨n, by rw [List.mem_range'_1]; omega, rfl⟩, decide_eq_true ((band_iff _ _).2 hb)⟩
theorem possible_iff {S : Slate} (hG : Good S) (out : List Int) : possibleB S out = true ↔ ∃ L, areOz S.es L = true ∧ ∀ i x, S.ss[i]? = some x → Int.ofNat i ∈ out ∨ rightOk S.es L x = true := by
  unfold possibleB
  rw [List.any_eq_true]
  have key : ∀ (L : List Int) (i : Nat) (x : Say), S.ss[i]? = some x → within (owV S.es L x.w.toNat) x.ow.lo x.ow.hi = rightOk S.es L x := by
    intro L i x hx
    obtain ⟨u, _, hu⟩ := hG.os x (List.mem_of_getElem? hx)
    unfold owV rightOk
    rw [hu]; rfl
  constructor
  · rintro ⟨L, h1, h2⟩
    refine ⟨L, (mem_ozs hG.oe).1 h1, fun i x hx => ?_⟩
    have := (rightUp_iff _ _ _ _).1 h2 i x hx
    rwa [Nat.zero_add, key L i x hx] at this
  · rintro ⟨L, h1, h2⟩
    refine ⟨L, (mem_ozs hG.oe).2 h1, (rightUp_iff _ _ _ _).2 fun i x hx => ?_⟩
    rw [Nat.zero_add, key L i x hx]; exact h2 i x hx
/-- Sayings are possible by the program as by the document. -/
theorem possible_can {S : Slate} (hG : Good S) (out : List Int) (m : Nat) (hm : ∀ i, m.testBit i = true ↔ i < S.ss.length ∧ Int.ofNat i ∉ out) : possibleB S out = can (allN S) m := by
  rw [Bool.eq_iff_iff, possible_iff hG, can_iff hG]
  constructor
  · rintro ⟨L, h1, h2⟩
    refine ⟨L, h1, fun i hi => ?_⟩
    obtain ⟨hl, hn⟩ := (hm i).1 hi
    rw [rightN_test, List.getElem?_eq_getElem hl]
    rcases h2 i _ (List.getElem?_eq_getElem hl) with h | h
    · exact absurd h hn
    · exact h
  · rintro ⟨L, h1, h2⟩
    refine ⟨L, h1, fun i x hx => ?_⟩
    by_cases hin : Int.ofNat i ∈ out
    · exact Or.inl hin
    · right
      have hl : i < S.ss.length := by
        rcases Nat.lt_or_ge i S.ss.length with h | h
        · exact h
        · rw [List.getElem?_eq_none h] at hx; cases hx
      have := h2 i ((hm i).2 ⟨hl, hin⟩)
      rwa [rightN_test, hx] at this
end Go.Proofs.Ytlhfeiacigmliaa

/- The wash-house's soap, plain law: what is asked of all truths is as the document says. -/
namespace Go.Proofs.Ytlhfeiacigmliaa
open Go
set_option maxRecDepth 10000

theorem fullN_test' (n i : Nat) : (fullN n).testBit i = decide (i < n) := by
  unfold fullN pw; rw [Nat.testBit_two_pow_sub_one]
/-- All sayings are right with these ounces. -/
def AllRight (S : Slate) (L : List Int) : Prop := ∀ (i : Nat) (x : Say), S.ss[i]? = some x → rightOk S.es L x = true
theorem full_iff (S : Slate) (L : List Int) : rightN S L = fullN (lenOf S.ss) ↔ AllRight S L := by
  constructor
  · intro h i x hx
    have hl : i < S.ss.length := by
      rcases Nat.lt_or_ge i S.ss.length with h | h
      · exact h
      · rw [List.getElem?_eq_none h] at hx; cases hx
    have h1 : (rightN S L).testBit i = true := by rw [h, fullN_test']; exact decide_eq_true hl
    rwa [rightN_test, hx] at h1
  · intro h
    apply Nat.eq_of_testBit_eq
    intro i
    rw [rightN_test, fullN_test']
    by_cases hl : i < S.ss.length
    · have := h i _ (List.getElem?_eq_getElem hl)
      rw [List.getElem?_eq_getElem hl]
      simp only [this]
      exact (decide_eq_true hl).symm
    · rw [List.getElem?_eq_none (by omega)]
      exact (decide_eq_false hl).symm
theorem right_all {S : Slate} (hG : Good S) (L : List Int) : rightUp (owV S.es L) [] 0 S.ss = true ↔ AllRight S L := by
  rw [rightUp_iff]
  constructor
  · intro h i x hx
    obtain ⟨u, _, hu⟩ := hG.os x (List.mem_of_getElem? hx)
    rcases h i x hx with h | h
    · simp at h
    · unfold owV at h; unfold rightOk; rw [hu] at h ⊢; exact h
  · intro h i x hx
    obtain ⟨u, _, hu⟩ := hG.os x (List.mem_of_getElem? hx)
    right
    have := h i x hx
    unfold rightOk at this; unfold owV; rw [hu] at this ⊢; exact this
theorem mem_truths {S : Slate} (hG : Good S) (L : List Int) : L ∈ truths S (prodN S.es) ↔ areOz S.es L = true ∧ AllRight S L := by
  unfold truths upto
  rw [List.mem_flatMap]
  constructor
  · rintro ⟨n, _, h⟩
    unfold truthF at h
    split at h
    · rename_i hf
      simp only [List.mem_singleton] at h
      subst h
      exact ⟨nth_areOz hG.oe n, (full_iff _ _).1 hf⟩
    · simp at h
  · rintro ⟨h1, h2⟩
    obtain ⟨n, hn, rfl⟩ := areOz_nth hG.oe h1
    refine ⟨n, by rw [List.mem_range'_1]; omega, ?_⟩
    unfold truthF
    rw [if_pos ((full_iff _ _).2 h2)]; simp
theorem eq6_refl (a : Nat → Int) : eq6 a a = true := by simp [eq6]
theorem eq6_at {a b : Nat → Int} (h : eq6 a b = true) {j : Nat} (hj : j < 6) : a j = b j := by
  simp only [eq6, Bool.and_eq_true, decide_eq_true_eq, and_true] at h
  obtain ⟨h0, h1, h2, h3, h4, h5⟩ := h
  match j, hj with
  | 0, _ | 1, _ | 2, _ | 3, _ | 4, _ | 5, _ => assumption
/-- What has been asked: of each truth so far, and of truths alone. -/
theorem asked_inv {S : Slate} (hG : Good S) : ∀ (l : List (List Int)) (vs : List (Nat → Int)) (done : List (List Int)), (∀ L ∈ l, areOz S.es L = true) →
    (∀ a ∈ vs, ∃ L, areOz S.es L = true ∧ AllRight S L ∧ a = owV S.es L) → (∀ L ∈ done, AllRight S L → ∃ a ∈ vs, eq6 a (owV S.es L) = true) →
    (∀ a ∈ (iterL (fun _ _ => true) (askStep S.es S.ss) l vs).1, ∃ L, areOz S.es L = true ∧ AllRight S L ∧ a = owV S.es L) ∧
    (∀ L, L ∈ done ∨ L ∈ l → AllRight S L → ∃ a ∈ (iterL (fun _ _ => true) (askStep S.es S.ss) l vs).1, eq6 a (owV S.es L) = true)
  | [], vs, done, _, h2, h3 => ⟨h2, fun L hL => by
      rcases hL with hL | hL
      · exact h3 L hL
      · simp at hL⟩
  | L :: l, vs, done, h1, h2, h3 => by
    have hL := h1 L (by simp)
    have key : (∀ a ∈ askStep S.es S.ss vs L, ∃ L, areOz S.es L = true ∧ AllRight S L ∧ a = owV S.es L) ∧ (∀ K ∈ L :: done, AllRight S K → ∃ a ∈ askStep S.es S.ss vs L, eq6 a (owV S.es K) = true) := by
      unfold askStep
      cases hr : rightUp (owV S.es L) [] 0 S.ss with
      | false =>
        simp only [Bool.false_and, Bool.false_eq_true, if_false]
        refine ⟨h2, fun K hK hA => ?_⟩
        simp only [List.mem_cons] at hK
        rcases hK with hK | hK
        · subst hK
          rw [(right_all hG K).2 hA] at hr; cases hr
        · exact h3 K hK hA
      | true =>
        simp only [Bool.true_and]
        have hA := (right_all hG L).1 hr
        have add : (∀ a ∈ vs ++ [owV S.es L], ∃ L, areOz S.es L = true ∧ AllRight S L ∧ a = owV S.es L) ∧ (∀ K ∈ L :: done, AllRight S K → ∃ a ∈ vs ++ [owV S.es L], eq6 a (owV S.es K) = true) := by
          refine ⟨fun a ha => ?_, fun K hK hA => ?_⟩
          · simp only [List.mem_append, List.mem_singleton] at ha
            rcases ha with ha | ha
            · exact h2 a ha
            · exact ⟨L, hL, ‹_›, ha⟩
          · simp only [List.mem_cons] at hK
            rcases hK with hK | hK
            · subst hK; exact ⟨_, by simp, eq6_refl _⟩
            · obtain ⟨a, ha, he⟩ := h3 K hK hA
              exact ⟨a, by simp [ha], he⟩
        cases hg : vs.getLast? with
        | none => simpa using add
        | some a =>
          simp only
          by_cases he : eq6 a (owV S.es L) = true
          · rw [if_neg (by rw [he]; simp)]
            refine ⟨h2, fun K hK hA => ?_⟩
            simp only [List.mem_cons] at hK
            rcases hK with hK | hK
            · subst hK; exact ⟨a, List.mem_of_getLast? hg, he⟩
            · exact h3 K hK hA
          · rw [if_pos (by simpa using he)]; exact add
    rw [iterL]
    simp only [if_true]
    obtain ⟨i1, i2⟩ := asked_inv hG l (askStep S.es S.ss vs L) (L :: done) (fun K hK => h1 K (by simp [hK])) key.1 key.2
    refine ⟨i1, fun K hK => i2 K ?_⟩
    simp only [List.mem_cons] at hK ⊢
    rcases hK with hK | hK | hK
    · exact Or.inl (Or.inr hK)
    · exact Or.inl (Or.inl hK)
    · exact Or.inr hK
theorem asked_truth {S : Slate} (hG : Good S) {a : Nat → Int} (ha : a ∈ asked S) : ∃ L ∈ truths S (prodN S.es), a = owV S.es L := by
  obtain ⟨h1, _⟩ := asked_inv hG (ozs S.es) [] [] (fun L hL => (mem_ozs hG.oe).1 hL) (by simp) (by simp)
  obtain ⟨L, g1, g2, g3⟩ := h1 a ha
  exact ⟨L, (mem_truths hG L).2 ⟨g1, g2⟩, g3⟩
theorem truth_asked {S : Slate} (hG : Good S) {L : List Int} (hL : L ∈ truths S (prodN S.es)) : ∃ a ∈ asked S, eq6 a (owV S.es L) = true := by
  obtain ⟨g1, g2⟩ := (mem_truths hG L).1 hL
  obtain ⟨_, h2⟩ := asked_inv hG (ozs S.es) [] [] (fun L hL => (mem_ozs hG.oe).1 hL) (by simp) (by simp)
  exact h2 L (Or.inr ((mem_ozs hG.oe).2 g1)) g2
theorem err_eq (S : Slate) : askedErr S = sureErr S := by
  unfold askedErr sureErr
  by_cases hc : checkSlate S = 0
  · have hG := good_of_check hc
    have : (asked S = []) ↔ (truths S (prodN S.es) = []) := by
      constructor
      · intro h
        cases ht : truths S (prodN S.es) with
        | nil => rfl
        | cons L l =>
          obtain ⟨a, ha, _⟩ := truth_asked hG (L := L) (by rw [ht]; simp)
          rw [h] at ha; simp at ha
      · intro h
        cases ht : asked S with
        | nil => rfl
        | cons a l =>
          obtain ⟨L, hL, _⟩ := asked_truth hG (a := a) (by rw [ht]; simp)
          rw [h] at hL; simp at hL
    by_cases ha : asked S = []
    · simp only [hc, ne_eq, not_true_eq_false, if_false, ha, this.1 ha, if_true]
    · have hb : ¬ truths S (prodN S.es) = [] := fun h => ha (this.2 h)
      simp only [hc, ne_eq, not_true_eq_false, if_false, ha, hb]
  · simp only [ne_eq, hc, not_false_eq_true, if_true]

/-! least and greatest -/
theorem pbUp_spec (val : (Nat → Int) → Int) : ∀ (l : List (Nat → Int)) (lo hi : Int), ((pbUp lo hi val l).1 ≤ lo ∧ hi ≤ (pbUp lo hi val l).2) ∧ (∀ a ∈ l, (pbUp lo hi val l).1 ≤ val a ∧ val a ≤ (pbUp lo hi val l).2) ∧
    ((pbUp lo hi val l).1 = lo ∨ ∃ a ∈ l, (pbUp lo hi val l).1 = val a) ∧ ((pbUp lo hi val l).2 = hi ∨ ∃ a ∈ l, (pbUp lo hi val l).2 = val a)
  | [], lo, hi => by simp [pbUp]
  | a :: l, lo, hi => by
    obtain ⟨⟨h1, h2⟩, h3, h4, h5⟩ := pbUp_spec val l (mn lo (val a)) (mx hi (val a))
    rw [pbUp]
    have hm : mn lo (val a) ≤ lo ∧ mn lo (val a) ≤ val a ∧ (mn lo (val a) = lo ∨ mn lo (val a) = val a) := by unfold mn; omega
    have hx : hi ≤ mx hi (val a) ∧ val a ≤ mx hi (val a) ∧ (mx hi (val a) = hi ∨ mx hi (val a) = val a) := by unfold mx; omega
    refine ⟨⟨by omega, by omega⟩, fun b hb => ?_, ?_, ?_⟩
    · simp only [List.mem_cons] at hb
      rcases hb with hb | hb
      · subst hb; exact ⟨by omega, by omega⟩
      · exact h3 b hb
    · rcases h4 with h | ⟨b, hb, h⟩
      · rcases hm.2.2 with g | g
        · left; omega
        · right; exact ⟨a, by simp, by omega⟩
      · right; exact ⟨b, by simp [hb], h⟩
    · rcases h5 with h | ⟨b, hb, h⟩
      · rcases hx.2.2 with g | g
        · left; omega
        · right; exact ⟨a, by simp, by omega⟩
      · right; exact ⟨b, by simp [hb], h⟩
theorem pBounds_spec (val : (Nat → Int) → Int) (l : List (Nat → Int)) (h0 : l ≠ []) : (∀ a ∈ l, (pBounds val l).1 ≤ val a ∧ val a ≤ (pBounds val l).2) ∧ (∃ a ∈ l, (pBounds val l).1 = val a) ∧ (∃ a ∈ l, (pBounds val l).2 = val a) := by
  cases l with
  | nil => exact absurd rfl h0
  | cons a l =>
    rw [pBounds]
    obtain ⟨⟨h1, h2⟩, h3, h4, h5⟩ := pbUp_spec val l (mn (val a) (val a)) (mx (val a) (val a))
    have hm : mn (val a) (val a) = val a := by unfold mn; omega
    have hx : mx (val a) (val a) = val a := by unfold mx; omega
    refine ⟨fun b hb => ?_, ?_, ?_⟩
    · simp only [List.mem_cons] at hb
      rcases hb with hb | hb
      · subst hb; exact ⟨by omega, by omega⟩
      · exact h3 b hb
    · rcases h4 with h | ⟨b, hb, h⟩
      · exact ⟨a, by simp, by omega⟩
      · exact ⟨b, by simp [hb], h⟩
    · rcases h5 with h | ⟨b, hb, h⟩
      · exact ⟨a, by simp, by omega⟩
      · exact ⟨b, by simp [hb], h⟩
theorem boundsUp_spec (g : List Int → Int) : ∀ (l : List (List Int)) (lo hi : Int), ((boundsUp lo hi g l).1 ≤ lo ∧ hi ≤ (boundsUp lo hi g l).2) ∧ (∀ a ∈ l, (boundsUp lo hi g l).1 ≤ g a ∧ g a ≤ (boundsUp lo hi g l).2) ∧
    ((boundsUp lo hi g l).1 = lo ∨ ∃ a ∈ l, (boundsUp lo hi g l).1 = g a) ∧ ((boundsUp lo hi g l).2 = hi ∨ ∃ a ∈ l, (boundsUp lo hi g l).2 = g a)
  | [], lo, hi => by simp [boundsUp]
  | a :: l, lo, hi => by
    obtain ⟨⟨h1, h2⟩, h3, h4, h5⟩ := boundsUp_spec g l (mn lo (g a)) (mx hi (g a))
    rw [boundsUp]
    have hm : mn lo (g a) ≤ lo ∧ mn lo (g a) ≤ g a ∧ (mn lo (g a) = lo ∨ mn lo (g a) = g a) := by unfold mn; omega
    have hx : hi ≤ mx hi (g a) ∧ g a ≤ mx hi (g a) ∧ (mx hi (g a) = hi ∨ mx hi (g a) = g a) := by unfold mx; omega
    refine ⟨⟨by omega, by omega⟩, fun b hb => ?_, ?_, ?_⟩
    · simp only [List.mem_cons] at hb
      rcases hb with hb | hb
      · subst hb; exact ⟨by omega, by omega⟩
      · exact h3 b hb
    · rcases h4 with h | ⟨b, hb, h⟩
      · rcases hm.2.2 with g | g
        · left; omega
        · right; exact ⟨a, by simp, by omega⟩
      · right; exact ⟨b, by simp [hb], h⟩
    · rcases h5 with h | ⟨b, hb, h⟩
      · rcases hx.2.2 with g | g
        · left; omega
        · right; exact ⟨a, by simp, by omega⟩
      · right; exact ⟨b, by simp [hb], h⟩
/-- Bounds over all truths, asked by the program and by the document. -/
theorem bounds_same {S : Slate} (hG : Good S) (h0 : asked S ≠ []) (val : (Nat → Int) → Int) (g : List Int → Int) (hv : ∀ a L, eq6 a (owV S.es L) = true → val a = g L) (hg : ∀ L ∈ truths S (prodN S.es), -1000000 ≤ g L ∧ g L ≤ 1000000) :
    pBounds val (asked S) = boundsUp 1099511627776 (-1099511627776) g (truths S (prodN S.es)) := by
  obtain ⟨p1, ⟨a1, ha1, e1⟩, ⟨a2, ha2, e2⟩⟩ := pBounds_spec val (asked S) h0
  obtain ⟨_, b1, b2, b3⟩ := boundsUp_spec g (truths S (prodN S.es)) 1099511627776 (-1099511627776)
  obtain ⟨L1, hL1, q1⟩ := asked_truth hG ha1
  obtain ⟨L2, hL2, q2⟩ := asked_truth hG ha2
  have v1 := hv a1 L1 (by rw [q1]; exact eq6_refl _)
  have v2 := hv a2 L2 (by rw [q2]; exact eq6_refl _)
  have g1 := hg L1 hL1
  have g2 := hg L2 hL2
  have c1 := b1 L1 hL1
  have c2 := b1 L2 hL2
  refine Prod.ext ?_ ?_
  · rcases b2 with h | ⟨L, hL, h⟩
    · omega
    · obtain ⟨a, ha, he⟩ := truth_asked hG hL
      have := p1 a ha
      have := hv a L he
      omega
  · rcases b3 with h | ⟨L, hL, h⟩
    · omega
    · obtain ⟨a, ha, he⟩ := truth_asked hG hL
      have := p1 a ha
      have := hv a L he
      omega
end Go.Proofs.Ytlhfeiacigmliaa

/- From the evaluator to the rows: what a row gives, and what it wants. -/
namespace Go.Proofs.Ytlhfeiacigmliaa
open Go Go.ChangeShapes Go.RowKit
set_option maxRecDepth 100000

/-! the start: all cells that can be read are as they are -/
def rho0 (W : World) : Rho := ⟨fun _ => none, fun R off => W.cell? ⟨R, off, none⟩, fun _ => none⟩
theorem sim0 (P : Program) (W : World) : Sim P (rho0 W) St.empty W where
  inj _ _ _ h := by cases h
  mlt _ _ h := by cases h
  obj _ _ _ h := by cases h
  imm _ _ _ h := h
  free _ _ h := by cases h
  plt _ _ h := by cases h
  ver _ _ h := by cases h
  pnm _ _ _ h := by cases h
  room _ _ _ h := by cases h
  apart _ _ _ _ _ _ h := by cases h

/-! readings -/
theorem mapM_each {α β : Type} {f : α → Option β} : ∀ {l : List α} {ys : List β}, l.mapM f = some ys → ∀ a ∈ l, ∃ y, f a = some y
  | [], _, _, a, ha => by simp at ha
  | x :: l, ys, h, a, ha => by
    rw [List.mapM_cons] at h
    cases hx : f x with
    | none => rw [hx] at h; simp at h
    | some y =>
      rw [hx] at h
      cases hl : l.mapM f with
      | none => rw [hl] at h; simp at h
      | some zs =>
        simp only [List.mem_cons] at ha
        rcases ha with rfl | ha
        · exact ⟨y, hx⟩
        · exact mapM_each hl a ha
section
variable {H : Type} {enc : TypeId × Value → H} {P : Program} {w : World}
abbrev trd (enc : TypeId × Value → H) (P : Program) (w : World) (fuel : Nat) (t : TypeId) (cs : List Value) : Option (DataW H × List MemPlace) := DataW.trod enc P w 0 (fun _ => true) true fuel t cs
theorem trd_struct {t : TypeId} {fs : Array Field} (hu : P.underlying t = some (.struct fs)) {fuel : Nat} {cs : List Value} {x : DataW H × List MemPlace} (h : trd enc P w fuel t cs = some x) :
    cs.length = P.cellsOf t ∧ ∃ fuel', ∀ f ∈ fs.toList, ∃ y, trd enc P w fuel' f.type ((cs.drop f.offset).take (P.cellsOf f.type)) = some y := by
  cases fuel with
  | zero => simp [trd, DataW.trod] at h
  | succ fuel =>
    simp only [trd, DataW.trod, hu] at h
    split at h
    · rename_i hl
      refine ⟨hl, fuel, fun f hf => ?_⟩
      rw [Option.map_eq_some_iff] at h
      obtain ⟨ys, h1, _⟩ := h
      exact mapM_each h1 f hf
    · cases h
theorem trd_slice {t e : TypeId} (hu : P.underlying t = some (.slice e)) {fuel : Nat} {cs : List Value} {x : DataW H × List MemPlace} (h : trd enc P w fuel t cs = some x) :
    cs = [.slice none 0 0] ∨ ∃ a len cap, cs = [.slice (some a) len cap] ∧ len ≤ cap ∧ ∃ fuel', ∀ i, i < len → ∃ row y, w.cells? 0 (a.add (i * P.cellsOf e)) (P.cellsOf e) = some row ∧ trd enc P w fuel' e row = some y := by
  cases fuel with
  | zero => simp [trd, DataW.trod] at h
  | succ fuel =>
    unfold trd DataW.trod at h
    rw [hu] at h
    rcases cs with _ | ⟨v, _ | ⟨v2, r⟩⟩
    · cases h
    · cases v with
      | slice o len cap =>
        cases o with
        | none =>
          left
          cases len with
          | zero =>
            cases cap with
            | zero => rfl
            | succ n => cases h
          | succ n => cases h
        | some a =>
          right
          simp only at h
          split at h
          · rename_i hc
            refine ⟨a, len, cap, rfl, hc.2.1, fuel, fun i hi => ?_⟩
            cases he : (List.range len).mapM fun i => (w.cells? 0 (a.add (i * P.cellsOf e)) (P.cellsOf e)).bind (DataW.trod enc P w 0 (fun _ => true) true fuel e) with
            | none => rw [he] at h; cases h
            | some ys =>
              obtain ⟨y, hy⟩ := mapM_each he i (by simpa using hi)
              rw [Option.bind_eq_some_iff] at hy
              obtain ⟨row, h1, h2⟩ := hy
              exact ⟨row, y, h1, h2⟩
          · cases h
      | _ => cases h
    · cases v with
      | slice o len cap =>
        cases o with
        | none =>
          cases len with
          | zero => cases cap <;> cases h
          | succ n => cases h
        | some a => cases h
      | _ => cases h
def Flat (enc : TypeId × Value → H) (P : Program) (w : World) (t : TypeId) (k : Nat) : Prop := ∀ fuel cs x, trd enc P w fuel t cs = some x → cs.length = k ∧ ∀ v ∈ cs, ∃ n : Int, v = .int .i64 n
theorem flat_int {t : TypeId} (hu : P.underlying t = some (.int .i64)) : Flat enc P w t 1 := by
  intro fuel cs x h
  cases fuel with
  | zero => simp [trd, DataW.trod] at h
  | succ fuel =>
    unfold trd DataW.trod at h
    rw [hu] at h
    rcases cs with _ | ⟨v, _ | ⟨v2, r⟩⟩
    · cases h
    · cases v with
      | int k n =>
        simp only at h
        split at h
        · rename_i hc
          obtain ⟨rfl, _⟩ := hc
          exact ⟨rfl, fun v hv => ⟨n, by simpa using hv⟩⟩
        · cases h
      | _ => cases h
    · cases v <;> cases h
/-- A structure of two or three fields that lie one behind the other. -/
theorem flat_two {t t0 t1 : TypeId} {k0 k1 : Nat} {fs : Array Field} (hu : P.underlying t = some (.struct fs)) {f0 f1 : Field} (hf : fs.toList = [f0, f1]) (h0 : f0.type = t0 ∧ f0.offset = 0 ∧ P.cellsOf t0 = k0) (h1 : f1.type = t1 ∧ f1.offset = k0 ∧ P.cellsOf t1 = k1)
    (hc : P.cellsOf t = k0 + k1) (F0 : Flat enc P w t0 k0) (F1 : Flat enc P w t1 k1) : Flat enc P w t (k0 + k1) := by
  intro fuel cs x h
  obtain ⟨hl, fuel', he⟩ := trd_struct hu h
  rw [hc] at hl
  rw [hf] at he
  obtain ⟨rfl, o0, c0⟩ := h0
  obtain ⟨rfl, o1, c1⟩ := h1
  obtain ⟨y0, g0⟩ := he f0 (by simp)
  obtain ⟨y1, g1⟩ := he f1 (by simp)
  rw [o0, c0, List.drop_zero] at g0
  rw [o1, c1, List.take_of_length_le (by simp; omega)] at g1
  obtain ⟨_, a0⟩ := F0 _ _ _ g0
  obtain ⟨_, a1⟩ := F1 _ _ _ g1
  refine ⟨hl, fun v hv => ?_⟩
  rw [← List.take_append_drop k0 cs, List.mem_append] at hv
  rcases hv with hv | hv
  · exact a0 v hv
  · exact a1 v hv
theorem flat_three {t t0 t1 t2 : TypeId} {k0 k1 k2 : Nat} {fs : Array Field} (hu : P.underlying t = some (.struct fs)) {f0 f1 f2 : Field} (hf : fs.toList = [f0, f1, f2]) (h0 : f0.type = t0 ∧ f0.offset = 0 ∧ P.cellsOf t0 = k0) (h1 : f1.type = t1 ∧ f1.offset = k0 ∧ P.cellsOf t1 = k1)
    (h2 : f2.type = t2 ∧ f2.offset = k0 + k1 ∧ P.cellsOf t2 = k2) (hc : P.cellsOf t = k0 + k1 + k2) (F0 : Flat enc P w t0 k0) (F1 : Flat enc P w t1 k1) (F2 : Flat enc P w t2 k2) : Flat enc P w t (k0 + k1 + k2) := by
  intro fuel cs x h
  obtain ⟨hl, fuel', he⟩ := trd_struct hu h
  rw [hc] at hl
  rw [hf] at he
  obtain ⟨rfl, o0, c0⟩ := h0
  obtain ⟨rfl, o1, c1⟩ := h1
  obtain ⟨rfl, o2, c2⟩ := h2
  obtain ⟨y0, g0⟩ := he f0 (by simp)
  obtain ⟨y1, g1⟩ := he f1 (by simp)
  obtain ⟨y2, g2⟩ := he f2 (by simp)
  rw [o0, c0, List.drop_zero] at g0
  rw [o1, c1] at g1
  rw [o2, c2, List.take_of_length_le (by simp; omega)] at g2
  obtain ⟨_, a0⟩ := F0 _ _ _ g0
  obtain ⟨_, a1⟩ := F1 _ _ _ g1
  obtain ⟨_, a2⟩ := F2 _ _ _ g2
  refine ⟨hl, fun v hv => ?_⟩
  rw [← List.take_append_drop k0 cs, List.mem_append] at hv
  rcases hv with hv | hv
  · exact a0 v hv
  · rw [← List.take_append_drop k1 (cs.drop k0), List.mem_append, List.drop_drop] at hv
    rcases hv with hv | hv
    · exact a1 v hv
    · exact a2 v hv
/-- The cells of a slice of such things. -/
theorem slice_vals {t e : TypeId} {k : Nat} (hu : P.underlying t = some (.slice e)) (hk : P.cellsOf e = k) (F : Flat enc P w e k) {fuel : Nat} {v : Value} {x : DataW H × List MemPlace} (h : trd enc P w fuel t [v] = some x)
    (hs : ∀ a len cap, v = .slice (some a) len cap → a.spot = none) : ∃ (len : Nat) (vals : Nat → Int), VRel (rho0 w) (.vsl ((List.range (len * k)).map fun j => i64 (vals j)) len .no) v := by
  rcases trd_slice hu h with h | ⟨a, len, cap, h, hlc, fuel', he⟩
  · simp only [List.cons.injEq, and_true] at h
    subst h
    refine ⟨0, fun _ => 0, ?_⟩
    rw [Nat.zero_mul]
    exact Or.inl ⟨rfl, rfl, fun p hp => (by cases hp), rfl⟩
  · simp only [List.cons.injEq, and_true] at h
    have hsp := hs a len cap h
    subst h
    obtain ⟨R, off, sp⟩ := a
    simp only at hsp
    subst hsp
    have hcell : ∀ j, ∃ n : Int, j < len * k → w.cell? ⟨R, off + j, none⟩ = some (.int .i64 n) := by
      intro j
      by_cases hj : j < len * k
      · have hk0 : 0 < k := by
          rcases Nat.eq_zero_or_pos k with h | h
          · subst h; simp at hj
          · exact h
        obtain ⟨row, y, g1, g2⟩ := he (j / k) (Nat.div_lt_of_lt_mul (by rw [Nat.mul_comm]; exact hj))
        rw [hk] at g1
        obtain ⟨_, hrl, hrc⟩ := World.cells?_some g1
        obtain ⟨_, ha⟩ := F _ _ _ g2
        have hm : j % k < k := Nat.mod_lt _ hk0
        have hrow : row[j % k]? = some (row[j % k]'(by omega)) := List.getElem?_eq_getElem _
        obtain ⟨n, hn⟩ := ha _ (List.getElem_mem (l := row) (n := j % k) (by omega))
        refine ⟨n, fun _ => ?_⟩
        have := hrc (j % k) hm
        rw [hrow, hn] at this
        rw [← this]
        congr 1
        have hdm := Nat.div_add_mod' j k
        generalize j / k * k = u at hdm
        generalize j % k = z at hdm
        simp only [Addr.add]
        split <;> split <;> simp <;> omega
      · exact ⟨0, fun h => absurd h hj⟩
    refine ⟨len, fun j => (hcell j).choose, Or.inr ⟨R, off, cap, rfl, hlc, IRel.of_get fun i a ha => ?_, trivial⟩⟩
    have hi : i < len * k := by
      rcases Nat.lt_or_ge i (len * k) with h | h
      · exact h
      · rw [List.getElem?_eq_none (by simpa using h)] at ha; cases ha
    rw [List.getElem?_map, List.getElem?_range hi] at ha
    simp only [Option.map_some, Option.some.injEq] at ha
    subst ha
    exact ⟨_, (hcell i).choose_spec hi, rfl, rfl⟩
theorem cells_range {α : Type} {f : α → List AVal} {k : Nat} {mk : Nat → α} {vals : Nat → Int} (hf : ∀ i, f (mk i) = (List.range k).map fun j => i64 (vals (i * k + j))) (n : Nat) : cellsOf f ((List.range n).map mk) = (List.range (n * k)).map fun j => i64 (vals j) := by
  induction n with
  | zero => simp [cells_nil]
  | succ n ih =>
    rw [List.range_succ, List.map_append, cells_append, ih, Nat.add_mul, Nat.one_mul, List.range_add, List.map_append]
    congr 1
    simp only [List.map_cons, List.map_nil, cells_cons, cells_nil, List.append_nil, hf, List.map_map]
    rfl
end

/-! the program's types -/
section
variable {H : Type} {enc : TypeId × Value → H} {w : World}
theorem c3 : Try.prog.cellsOf 3 = 1 := by kernel_rfl
theorem c46 : Try.prog.cellsOf 46 = 2 := by kernel_rfl
theorem c85 : Try.prog.cellsOf 85 = 4 := by kernel_rfl
theorem c88 : Try.prog.cellsOf 88 = 3 := by kernel_rfl
theorem c22 : Try.prog.cellsOf 22 = 1 := by kernel_rfl
theorem c23 : Try.prog.cellsOf 23 = 1 := by kernel_rfl
theorem c25 : Try.prog.cellsOf 25 = 3 := by kernel_rfl
theorem F3 : Flat enc Try.prog w 3 1 := flat_int Try.underlying3
theorem F46 : Flat enc Try.prog w 46 2 := flat_two Try.underlying46 rfl ⟨rfl, rfl, c3⟩ ⟨rfl, rfl, c3⟩ c46 F3 F3
theorem F85 : Flat enc Try.prog w 85 4 := flat_three Try.underlying85 rfl ⟨rfl, rfl, c3⟩ ⟨rfl, rfl, c3⟩ ⟨rfl, rfl, c46⟩ c85 F3 F3 F46
theorem F88 : Flat enc Try.prog w 88 3 := flat_two Try.underlying88 rfl ⟨rfl, rfl, c3⟩ ⟨rfl, rfl, c46⟩ c88 F3 F46
theorem spot_of_ok {P : Program} {base : Nat} {t e : TypeId} {v : Value} (hu : P.underlying t = some (.slice e)) (h : Cell.okWide P w .any base t v) : ∀ a len cap, v = .slice (some a) len cap → a.spot = none := by
  rintro a len cap rfl
  unfold Cell.okWide at h
  rw [hu] at h
  unfold Cell.ok at h
  rw [hu] at h
  exact h.2.2.2.1
theorem rel_ents {t : TypeId} (hu : Try.prog.underlying t = some (.slice 85)) {fuel : Nat} {v : Value} {x : DataW H × List MemPlace} (h : trd enc Try.prog w fuel t [v] = some x) (hs : ∀ a len cap, v = .slice (some a) len cap → a.spot = none) : ∃ l : List Ent, VRel (rho0 w) (sl cE l) v := by
  obtain ⟨len, vals, hv⟩ := slice_vals hu c85 F85 h hs
  refine ⟨(List.range len).map fun i => ⟨vals (i * 4 + 0), vals (i * 4 + 1), ⟨vals (i * 4 + 2), vals (i * 4 + 3)⟩⟩, ?_⟩
  have hc := cells_range (f := cE) (k := 4) (mk := fun i => ⟨vals (i * 4 + 0), vals (i * 4 + 1), ⟨vals (i * 4 + 2), vals (i * 4 + 3)⟩⟩) (vals := vals) (fun i => rfl) len
  rw [← hc] at hv
  simpa [sl, lenOf] using hv
theorem rel_says {t : TypeId} (hu : Try.prog.underlying t = some (.slice 88)) {fuel : Nat} {v : Value} {x : DataW H × List MemPlace} (h : trd enc Try.prog w fuel t [v] = some x) (hs : ∀ a len cap, v = .slice (some a) len cap → a.spot = none) : ∃ l : List Say, VRel (rho0 w) (sl cS l) v := by
  obtain ⟨len, vals, hv⟩ := slice_vals hu c88 F88 h hs
  refine ⟨(List.range len).map fun i => ⟨vals (i * 3 + 0), ⟨vals (i * 3 + 1), vals (i * 3 + 2)⟩⟩, ?_⟩
  have hc := cells_range (f := cS) (k := 3) (mk := fun i => ⟨vals (i * 3 + 0), ⟨vals (i * 3 + 1), vals (i * 3 + 2)⟩⟩) (vals := vals) (fun i => rfl) len
  rw [← hc] at hv
  simpa [sl, lenOf] using hv
theorem rel_ints {fuel : Nat} {v : Value} {x : DataW H × List MemPlace} (h : trd enc Try.prog w fuel 37 [v] = some x) (hs : ∀ a len cap, v = .slice (some a) len cap → a.spot = none) : ∃ l : List Int, VRel (rho0 w) (sl cI l) v := by
  obtain ⟨len, vals, hv⟩ := slice_vals Try.underlying37 c3 F3 h hs
  refine ⟨(List.range len).map fun i => vals (i * 1 + 0), ?_⟩
  have hc := cells_range (f := cI) (k := 1) (mk := fun i => vals (i * 1 + 0)) (vals := vals) (fun i => rfl) len
  rw [← hc] at hv
  simpa [sl, lenOf] using hv
theorem rel_slate {base : Nat} {v : Value} {d : DataW H} {p : List MemPlace} (hok : Value.okWide Try.prog w .any base 25 v) (h : DataW.Trod enc Try.prog w 0 (fun _ => true) true 25 v d p) : ∃ S : Slate, VRel (rho0 w) (vSl S) v := by
  obtain ⟨fuel, h⟩ := h
  unfold Value.okWide at hok
  rw [Try.underlying25] at hok
  obtain ⟨cs, rfl, hsz, ts, hts, _, hrow⟩ := hok
  rw [c25] at hsz
  have hts' : Try.prog.cellTypes Try.prog.depth 25 = some [3, 22, 23] := by kernel_rfl
  rw [hts'] at hts
  cases hts
  obtain ⟨l⟩ := cs
  simp only [List.size_toArray] at hsz
  match l, hsz with
  | [x0, x1, x2], _ =>
    obtain ⟨_, fuel', he⟩ := trd_struct Try.underlying25 h
    simp only [Value.cells, List.mem_cons, List.not_mem_nil, or_false, forall_eq_or_imp, forall_eq, c3, c22, c23] at he
    obtain ⟨⟨y0, h0⟩, ⟨y1, h1⟩, ⟨y2, h2⟩⟩ := he
    obtain ⟨_, a0⟩ := F3 _ _ _ h0
    obtain ⟨n, hn⟩ := a0 x0 (by simp)
    obtain ⟨u1, e1, o1⟩ := hrow 1 x1 rfl
    obtain ⟨u2, e2, o2⟩ := hrow 2 x2 rfl
    cases e1; cases e2
    obtain ⟨es, r1⟩ := rel_ents Try.underlying22 h1 (spot_of_ok Try.underlying22 o1)
    obtain ⟨ss, r2⟩ := rel_says Try.underlying23 h2 (spot_of_ok Try.underlying23 o2)
    refine ⟨⟨n, es, ss⟩, _, rfl, x0, [x1, x2], rfl, by subst hn; rfl, hn, x1, [x2], rfl, ?_, r1, x2, [], rfl, ?_, r2, rfl⟩
    · rcases r1 with ⟨_, _, _, h⟩ | ⟨_, _, _, h, _⟩ <;> rw [h] <;> rfl
    · rcases r2 with ⟨_, _, _, h⟩ | ⟨_, _, _, h, _⟩ <;> rw [h] <;> rfl

/-! the end: true is returned, and nothing that was is different -/
theorem stays_all {P : Program} (hl : laidOutB P = true) {W W' : World} {sp : Nat → Bool} : ∀ {ts : List TypeId} {vs : List Value} {ds : List (DataW H)} {ps : List MemPlace}, (∀ t ∈ ts, P.readableRec t = true ∧ t < P.types.size) →
    DataW.TrodAll enc P W 0 (fun _ => true) true ts vs ds ps → (∀ p ∈ ps, W.sameAt W' p) → (∀ p ∈ ps, sp p.block = true) → DataW.TrodAll enc P W' 0 sp true ts vs ds ps
  | [], vs, ds, ps, _, h, _, _ => by
    cases vs <;> cases ds <;> simp_all [DataW.TrodAll]
  | t :: ts, vs, ds, ps, hr, h, hs, hp => by
    obtain ⟨v, vs', d, ds', p, q, rfl, rfl, rfl, hd, hrest⟩ := trodAll_cons h
    obtain ⟨r1, r2⟩ := hr t (by simp)
    exact ⟨p, q, Go.WideElems.Trod_stays hl r1 r2 hd (fun x hx => hs x (by simp [hx])) (fun x hx => hp x (by simp [hx])), stays_all hl (fun t ht => hr t (by simp [ht])) hrest (fun x hx => hs x (by simp [hx])) (fun x hx => hp x (by simp [hx])), rfl⟩
theorem laid : laidOutB Try.prog = true := by kernel_rfl
theorem shut_true {f : Func} {s : ChangeSpec} {W W' : World} {args : Array Value} {ds : List (DataW H)} {before : List MemPlace} {ρ' : Rho} (hW : DataW.Whole enc Try.prog f.params.toList s.vars false W args.toList ds [] before) (hv : s.vars = [])
    (hr : f.resultTypes.toList = [4]) (hrd : ∀ t ∈ f.params.toList, Try.prog.readableRec t = true ∧ t < Try.prog.types.size) (h1 : (s.fn H (ds ++ [])).results = [.lit (.bool true)]) (h2 : (s.fn H (ds ++ [])).args = ds) (h3 : (s.fn H (ds ++ [])).vars = [])
    (hF : Fwd (rho0 W) W ρ' W') : s.post enc Try.prog f false true false false W args (.bool true) W' := by
  have hb : ∀ R, R < W.heap.size → W'.heap[R]? = W.heap[R]? := fun R hR => hF.kept R hR (by
    rintro (⟨b, hb⟩ | ⟨p, r, hp, _⟩)
    · cases hb
    · cases hp)
  have hlt := hW.lt
  have hW0 := hW
  obtain ⟨p, q, hA, hV, rfl, _, _⟩ := hW0
  rw [hv] at hV
  obtain ⟨_, rfl⟩ := trodVars_none hV
  rw [List.append_nil] at hlt
  have hargs : DataW.TrodAll enc Try.prog W' 0 (fun b => decide (b < W.heap.size)) true f.params.toList args.toList ds p := by
    refine stays_all laid hrd hA (fun x hx => ?_) (fun x hx => by simpa using hlt x hx)
    cases x with
    | cell b o => exact World.cell?_of_block (w := W) (hb b (hlt _ hx))
    | map b => exact hb b (hlt _ hx)
  have hrs : f.resultTypes.size = 1 := by rw [← Array.length_toList, hr]; rfl
  refine ⟨ds, [], _, [], p, [], hW, ?_, ?_, ?_, ⟨hF.os, hF.output, fun i hi => ?_⟩, fun h => by cases h⟩
  · rw [h1, hr, hrs]
    refine trodAll_mk1 ⟨1, ?_⟩
    simp [DataW.trod, Try.underlying4, Value.cells]
  · rw [h2]; exact hargs
  · rw [h3, hv]; rfl
  · rw [hb i hi]; split <;> simp_all
end
theorem thin_len {S : Slate} (h : thin S = true) : S.es.length ≤ 8 ∧ S.ss.length ≤ 7 := by
  unfold thin at h
  simp only [Bool.and_eq_true, Bool.not_eq_true', Bool.or_eq_false_iff, decide_eq_false_iff_not] at h
  obtain ⟨⟨h1, h2⟩, _⟩ := h
  unfold lenOf at h1 h2
  omega
end Go.Proofs.Ytlhfeiacigmliaa
