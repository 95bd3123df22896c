/- The wash-house's soap: what the functions compute: Settle. -/
import Derived.Test.YtlhfeiacigmliaaPartI
import Derived.Test.YtlhfeiacigmliaaRows
import Derived.ProofKit
set_option linter.all false
namespace Go.Proofs.Ytlhfeiacigmliaa
open Go
set_option maxRecDepth 10000

@[go_sem] theorem frz1_own_cP (n : Nat) (s : St) (sz p : Nat) (l : List Pay) : frz1 n s sz (ownSl cP p l) = some (sl cP l) := frz1_ownSl (fun _ => rfl) ..
theorem app_list {α : Type} {f : α → List AVal} {sz : Nat} (hf : ∀ a, (f a).length = sz) (bytes : Nat) (p : Nat) (q : Nat → Nat) (N : Nat) (O : List AObj) (l l' : List α) (h : (l.length + l'.length) * bytes ≤ 70368744177664) (h' : l.length + l'.length ≤ 70368744177664) :
    appendA sz bytes (ownSl f p l) (sl f l') ⟨N, O, roomP p (lenOf l), roomC p q (lenOf l)⟩ = some (ownSl f p (app l l'), ⟨N, O, roomP p (lenOf (app l l')), roomC p q (lenOf (app l l'))⟩) := by
  have he : elemsA ⟨N, O, roomP p (lenOf l), roomC p q (lenOf l)⟩ sz (sl f l') = some (l'.length, cellsOf f l') := by simp [elemsA, sl, lenOf, cells_length hf]
  unfold appendA
  rw [he]
  simp only [lenOf, app]
  cases l' with
  | nil =>
    rw [List.append_nil]
    simp only [List.length_nil, if_true]
    unfold ownSl
    by_cases hl : l.length = 0
    · simp [hl]
    · simp [hl]
  | cons b l' =>
    simp only [show (b :: l').length ≠ 0 by simp, if_false]
    cases l with
    | nil =>
      simp only [ownSl, roomP, roomC, lenOf, app, List.length_nil, if_true, List.nil_append, show (b :: l').length ≠ 0 by simp, if_false]
      simp only [List.length_nil, Nat.zero_add] at h h'
      rw [if_pos ⟨h, h'⟩]
      rfl
    | cons a l =>
      have hlen : (cellsOf f (a :: l)).length = (a :: l).length * sz := cells_length hf _
      simp only [ownSl, roomP, roomC, lenOf, app, show (a :: l).length ≠ 0 by simp, if_false, List.length_append, show (a :: l).length + (b :: l').length ≠ 0 by simp]
      rw [if_pos ⟨hlen, h, h'⟩]
      simp only [if_true]
      rw [if_pos ⟨trivial, by omega⟩]
      simp only [cells_append, Option.some.injEq, Prod.mk.injEq, true_and]
      simp only [St.grow, St.mk.injEq, true_and]
      funext x
      by_cases hx : x = p <;> simp [hx]
theorem Small.ow {es : List Ent} (w : Int) : ∀ {L : List Int} (n : Int) (B : Int), OkE es → areOz es L = true → -B ≤ n → n ≤ B → B + 80 * es.length ≤ 1000000 → -(B + 80 * es.length) ≤ owedUp n w es L ∧ owedUp n w es L ≤ B + 80 * es.length := by
  induction es with
  | nil =>
    intro L n B _ h h1 h2 h3
    cases L with
    | nil => simp only [owedUp, List.length_nil]; omega
    | cons x L => simp [areOz] at h
  | cons e es ih =>
    intro L n B ho h h1 h2 h3
    cases L with
    | nil => simp [areOz] at h
    | cons x L =>
      simp only [areOz, Bool.and_eq_true] at h
      obtain ⟨hx, h⟩ := h
      rw [within_iff] at hx
      have hoe := ho e (by simp)
      simp only [List.length_cons] at h3 ⊢
      rw [owedUp]
      have key : ∀ n', -(B + 80) ≤ n' → n' ≤ B + 80 → -(B + 80 * ((es.length + 1 : Nat) : Int)) ≤ owedUp n' w es L ∧ owedUp n' w es L ≤ B + 80 * ((es.length + 1 : Nat) : Int) := fun n' g1 g2 => by
        have := ih (L := L) n' (B + 80) (fun e he => ho e (by simp [he])) h g1 g2 (by omega)
        omega
      apply key
      · split <;> split
        · rw [wr_in (n := n + x) (by omega) (by omega), wr_in (by omega) (by omega)]; omega
        · rw [wr_in (n := n - x) (by omega) (by omega)]; omega
        · rw [wr_in (n := n + x) (by omega) (by omega)]; omega
        · omega
      · split <;> split
        · rw [wr_in (n := n + x) (by omega) (by omega), wr_in (by omega) (by omega)]; omega
        · rw [wr_in (n := n - x) (by omega) (by omega)]; omega
        · rw [wr_in (n := n + x) (by omega) (by omega)]; omega
        · omega
theorem small_ow {S : Slate} {L : List Int} (hG : Good S) (h : areOz S.es L = true) : Small (owV S.es L) := fun j => by
  have := Small.ow (es := S.es) (Int.ofNat j) (L := L) 0 0 hG.oe h (by omega) (by omega) (by have := hG.e6; omega)
  have h6 := hG.e6
  unfold owV; omega
/-- The numbers of a group. -/
def nats (l : List Int) : List Nat := l.map Int.toNat
def GrpOk (l : List Int) : Prop := l = ints (nats l) ∧ (∀ j ∈ nats l, j < 6) ∧ (nats l).length < 1000
theorem bits_ok {m : Nat} (h : m < 64) : GrpOk (bitsOf m) := by
  have hmem : ∀ x ∈ bitsOf m, ∃ j : Nat, j < 6 ∧ x = Int.ofNat j := by
    intro x hx
    unfold bitsOf upto at hx
    rw [List.mem_flatMap] at hx
    obtain ⟨j, _, hj⟩ := hx
    unfold bitF at hj
    split at hj
    · rename_i hb
      simp only [List.mem_singleton] at hj
      refine ⟨j, ?_, hj⟩
      rcases Nat.lt_or_ge j 6 with h1 | h1
      · exact h1
      · exfalso
        have : bshr m j = 0 := bshr_0 (Nat.lt_of_lt_of_le h (Nat.pow_le_pow_right (n := 2) (i := 6) (by omega) h1))
        rw [this] at hb; simp [bmod] at hb
    · simp at hj
  refine ⟨?_, ?_, ?_⟩
  · unfold ints nats
    rw [List.map_map]
    symm
    have : (bitsOf m).map (Int.ofNat ∘ Int.toNat) = (bitsOf m).map id := by
      apply List.map_congr_left
      intro x hx
      obtain ⟨j, _, rfl⟩ := hmem x hx
      rfl
    rw [this, List.map_id]
  · intro j hj
    unfold nats at hj
    rw [List.mem_map] at hj
    obtain ⟨x, hx, rfl⟩ := hj
    obtain ⟨j, h1, rfl⟩ := hmem x hx
    exact h1
  · unfold nats; rw [List.length_map]; have := bitsOf_len m; omega
theorem grp_ok (a : Nat → Int) : ∀ (f w g : Nat), w < 64 → g < 64 → ∀ l ∈ grp a f w g, GrpOk l
  | 0, _, _, _, _ => by simp [grp]
  | f + 1, w, g, hw, hg => by
    intro l hl
    rw [grp] at hl
    by_cases h0 : w = 0
    · rw [if_pos h0] at hl; simp at hl
    · rw [if_neg h0] at hl
      obtain ⟨x, hx, hx6, hlt⟩ := findI_ok a h0 hw
      rw [hx] at hl
      simp only at hl
      have hg' := bor_64 hg hx6
      split at hl
      · simp only [List.mem_cons] at hl
        rcases hl with hl | hl
        · subst hl; exact bits_ok hg'
        · exact grp_ok a f _ _ (by omega) (by omega) l hl
      · exact grp_ok a f _ _ (by omega) hg' l hl
theorem groups_ok (a : Nat → Int) : ∀ l ∈ groupsA a, GrpOk l := grp_ok a 64 _ _ (openN_lt a) (by omega)
theorem grp_len (a : Nat → Int) : ∀ (f w g : Nat), (grp a f w g).length ≤ f
  | 0, _, _ => by simp [grp]
  | f + 1, w, g => by
    rw [grp]
    split
    · simp
    · split
      · simp
      · split
        · simp only [List.length_cons]; exact Nat.succ_le_succ (grp_len a f _ 0)
        · exact Nat.le_succ_of_le (grp_len a f _ _)
theorem settleF_len : ∀ (f : Nat) (a : Nat → Int) (gs : List Nat), (settleF f a gs).length ≤ f
  | 0, _, _ => by simp [settleF]
  | f + 1, a, gs => by
    rw [settleF]
    split
    · simp only [List.length_cons]; exact Nat.succ_le_succ (settleF_len f _ gs)
    · simp
def settleG (a : Nat → Int) (g : List Int) : List Pay := settleF 1000 a (nats g)
def settleA (a : Nat → Int) : List Pay := (groupsA a).flatMap (settleG a)
theorem l53 (a : Nat → Int) (m : Nat) (hs : Small a) (G : List (List Int)) (hG : ∀ l ∈ G, GrpOk l) (hGl : G.length ≤ 64) (r : Nat) (N : Nat) (O : List AObj) (p : Nat) (q : Nat → Nat) : ∀ (k i : Nat) (acc : List Pay), i + k = G.length → acc.length ≤ i * 1000 →
    lim tbl (.loop a53_l0 37 ⟨[8, 9, 24, 25, 26], [8], []⟩ [ownSl cP p acc, .vref (c7 a m), ownSl cL r G, i64 (Int.ofNat (lenOf G)), i64 (Int.ofNat i)]) ⟨N, O, roomP p (lenOf acc), roomC p q (lenOf acc)⟩
      = some (.exit 0, [ownSl cP p (app acc ((G.drop i).flatMap (settleG a)))], ⟨N, O, roomP p (lenOf (app acc ((G.drop i).flatMap (settleG a)))), roomC p q (lenOf (app acc ((G.drop i).flatMap (settleG a))))⟩) := by
  intro k
  induction k with
  | zero =>
    intro i acc hi ha
    rw [List.drop_eq_nil_of_le (by omega), List.flatMap_nil, app_nil, lim_loop]
    (try simp only [go_sem, ↓reduceIte, Nat.reduceAdd, Nat.reduceEqDiff, Nat.reduceLT, Nat.reduceLeDiff, Nat.reduceBEq, Int.reduceEq, Int.reduceLT, Int.reduceLE]); (repeat ((first | (rw [lt_yes]; rotate_left; (first | omega | (simp [lenOf, app]; omega) | (simp only [lenOf]; omega))) | (rw [lt_no]; rotate_left; (first | omega | (simp [lenOf, app]; omega) | (simp only [lenOf]; omega))) | (rw [idxA_at]; rotate_left; (first | omega | (simp [lenOf, app]; omega) | (simp only [lenOf]; omega))) | (rw [wr_up]; rotate_left; (first | omega | (simp [lenOf, app]; omega) | (simp only [lenOf]; omega))) | ((first | rw [drop_cI] | rw [drop_cE] | rw [drop_cS] | rw [drop_cP] | rw [drop_cR]); rotate_left; assumption)); try simp only [go_sem, ↓reduceIte, Nat.reduceAdd, Nat.reduceEqDiff, Nat.reduceLT, Nat.reduceLeDiff, Nat.reduceBEq, Int.reduceEq, Int.reduceLT, Int.reduceLE]))
  | succ k ih =>
    intro i acc hi ha
    have hlt : i < G.length := by omega
    obtain ⟨g, hg, hd⟩ := getElem_drop hlt
    have hd' := drop_cL hg
    obtain ⟨h1, h2, h3⟩ := hG g (List.mem_of_getElem? hg)
    have h91 := fun s => k91 a m (nats g) h2 h3 hs s
    rw [← h1] at h91
    change ∀ s, _ = some (_, [sl cP (settleG a g)], s) at h91
    have hl := settleF_len 1000 a (nats g)
    change (settleG a g).length ≤ 1000 at hl
    have happ := app_list (f := cP) (sz := 3) (fun _ => rfl) 24 p q N O acc (settleG a g) (by omega) (by omega)
    have h' := ih (i + 1) (app acc (settleG a g)) (by omega) (by simp [app]; omega)
    rw [hd, List.flatMap_cons, app_app, lim_loop]
    generalize settleG a g = V at h91 happ h' ⊢
    generalize hR : some (_, _, _) = R at h' ⊢
    (try simp only [go_sem, ↓reduceIte, Nat.reduceAdd, Nat.reduceEqDiff, Nat.reduceLT, Nat.reduceLeDiff, Nat.reduceBEq, Int.reduceEq, Int.reduceLT, Int.reduceLE]); (repeat ((first | rw [hd'] | simp only [h91] | rw [happ] | (rw [lt_yes]; rotate_left; (first | omega | (simp [lenOf, app]; omega) | (simp only [lenOf]; omega))) | (rw [lt_no]; rotate_left; (first | omega | (simp [lenOf, app]; omega) | (simp only [lenOf]; omega))) | (rw [idxA_at]; rotate_left; (first | omega | (simp [lenOf, app]; omega) | (simp only [lenOf]; omega))) | (rw [wr_up]; rotate_left; (first | omega | (simp [lenOf, app]; omega) | (simp only [lenOf]; omega))) | ((first | rw [drop_cI] | rw [drop_cE] | rw [drop_cS] | rw [drop_cP] | rw [drop_cR]); rotate_left; assumption)); try simp only [go_sem, ↓reduceIte, Nat.reduceAdd, Nat.reduceEqDiff, Nat.reduceLT, Nat.reduceLeDiff, Nat.reduceBEq, Int.reduceEq, Int.reduceLT, Int.reduceLE]))
    exact h'
/-- What Settle returns. -/
def settleP (S : Slate) (L : List Int) : List Pay := if playErr S L = 0 then settleA (playOw S L) else []
theorem k53 (S : Slate) (L : List Int) (s : St) : lim tbl (.call 53 [vSl S, sl cI L]) s = some (.ret, [.tup [sl cP (settleP S L), i64 (playErr S L)]], s) := by
  have h79 := fun s => k79 S L good_of_check s
  rw [lim_call tbl_53]
  by_cases he : playErr S L = 0
  · have hb : settleP S L = settleA (playOw S L) := by simp [settleP, he]
    have hc := play_check he
    have hs : Small (playOw S L) := by
      unfold playErr at he
      rw [if_neg (by simp [hc])] at he
      split at he
      · rename_i ho
        rw [playOw, if_pos ⟨hc, ho⟩]; exact small_ow (good_of_check hc) ho
      · cases he
    rw [hb, he]
    rw [he] at h79
    generalize playOw S L = a at h79 hs ⊢
    obtain ⟨N, O, p, q⟩ := s
    have h80 := k80 a (na N 1) (.cells (c6 a) :: O) p q
    obtain ⟨M', Q', hE, h81⟩ := k81 a (na N 1) p q (na (na N 1) 1) (.map true [] :: .cells (c6 a) :: O) (fun x hx => by
      simp only [List.mem_singleton] at hx; subst hx
      exact ⟨[], gO_new .., fun y hy => by simp at hy⟩)
    have hgl := grp_len a 64 (openN a) 0
    change (groupsA a).length ≤ 64 at hgl
    have h0 := l53 a (na N 1) hs (groupsA a) (groups_ok a) hgl p M' Q' (roomP p (lenOf (groupsA a))) (roomC p q (lenOf (groupsA a))) (groupsA a).length 0 [] (by omega) (by simp)
    rw [List.drop_zero, nil_app, ownSl_nil, show lenOf ([] : List Pay) = 0 from rfl, roomP_0, roomC_0, ofNat_0] at h0
    change _ = some (_, [ownSl cP _ (settleA a)], (⟨_, _, roomP _ (lenOf (settleA a)), roomC _ _ (lenOf (settleA a))⟩ : St)) at h0
    have ho := hE.old N O (by simp [na]) (((OldO.refl N O).push _).push _)
    generalize settleA a = V at h0 ⊢
    generalize groupsA a = G at h81 h0
    have hold : Ytlhfeiacigmliaa.old ⟨N, O, p, q⟩ ⟨M', Q', roomP (roomP p (lenOf G)) (lenOf V), roomC (roomP p (lenOf G)) (roomC p q (lenOf G)) (lenOf V)⟩ = true := by
      simp only [Ytlhfeiacigmliaa.old, decide_eq_true_eq]
      exact ⟨ho.1, ho.2, fun x hx => roomC_old2 p q _ _ x hx⟩
    obtain ⟨w, es, ss⟩ := S
    (try simp only [go_sem, ↓reduceIte, Nat.reduceAdd, Nat.reduceEqDiff, Nat.reduceLT, Nat.reduceLeDiff, Nat.reduceBEq, Int.reduceEq, Int.reduceLT, Int.reduceLE]); (repeat ((first | simp only [h79] | rw [h80] | rw [h81] | rw [h0] | rw [hold] | (rw [lt_yes]; rotate_left; (first | omega | (simp [lenOf, app]; omega) | (simp only [lenOf]; omega))) | (rw [lt_no]; rotate_left; (first | omega | (simp [lenOf, app]; omega) | (simp only [lenOf]; omega))) | (rw [idxA_at]; rotate_left; (first | omega | (simp [lenOf, app]; omega) | (simp only [lenOf]; omega))) | (rw [wr_up]; rotate_left; (first | omega | (simp [lenOf, app]; omega) | (simp only [lenOf]; omega))) | ((first | rw [drop_cI] | rw [drop_cE] | rw [drop_cS] | rw [drop_cP] | rw [drop_cR]); rotate_left; assumption)); try simp only [go_sem, ↓reduceIte, Nat.reduceAdd, Nat.reduceEqDiff, Nat.reduceLT, Nat.reduceLeDiff, Nat.reduceBEq, Int.reduceEq, Int.reduceLT, Int.reduceLE]))
  · have hb : settleP S L = [] := by simp [settleP, he]
    rw [hb]
    generalize playErr S L = e at h79 he ⊢
    generalize playOw S L = A at h79 ⊢
    obtain ⟨w, es, ss⟩ := S
    obtain ⟨N, O, p, q⟩ := s
    (try simp only [go_sem, ↓reduceIte, Nat.reduceAdd, Nat.reduceEqDiff, Nat.reduceLT, Nat.reduceLeDiff, Nat.reduceBEq, Int.reduceEq, Int.reduceLT, Int.reduceLE]); (repeat ((first | simp only [h79] | rw [eq_n he] | (rw [lt_yes]; rotate_left; (first | omega | (simp [lenOf, app]; omega) | (simp only [lenOf]; omega))) | (rw [lt_no]; rotate_left; (first | omega | (simp [lenOf, app]; omega) | (simp only [lenOf]; omega))) | (rw [idxA_at]; rotate_left; (first | omega | (simp [lenOf, app]; omega) | (simp only [lenOf]; omega))) | (rw [wr_up]; rotate_left; (first | omega | (simp [lenOf, app]; omega) | (simp only [lenOf]; omega))) | ((first | rw [drop_cI] | rw [drop_cE] | rw [drop_cS] | rw [drop_cP] | rw [drop_cR]); rotate_left; assumption)); try simp only [go_sem, ↓reduceIte, Nat.reduceAdd, Nat.reduceEqDiff, Nat.reduceLT, Nat.reduceLeDiff, Nat.reduceBEq, Int.reduceEq, Int.reduceLT, Int.reduceLE]))
end Go.Proofs.Ytlhfeiacigmliaa

/- The wash-house's soap: what the functions compute: the document's first examples. -/
namespace Go.Proofs.Ytlhfeiacigmliaa
open Go
set_option maxRecDepth 10000

@[go_sem] theorem repl_12 (a : AVal) : List.replicate 12 a = [a, a, a, a, a, a, a, a, a, a, a, a] := (rfl)
/-- A function that forgets takes its arguments in their normal form. -/
theorem call_norm {T : Nat → Option AFun} {k : Nat} {F : AFun} (h : T k = some F) {sz : Nat} (hg : F.gc = some sz) {args args' : List AVal} (hn : norms args = norms args') (s : St) : lim T (.call k args) s = lim T (.call k args') s := by
  rw [lim_call h, lim_call h, hg, frameV_some, frameV_some, hn]
def fourS (k : Nat) : Slate := ⟨4, [⟨0, 1, ⟨2, 3⟩⟩, ⟨1, 2, ⟨2, 2⟩⟩, ⟨3, 2, ⟨1, 4⟩⟩], ([⟨2, ⟨-4, -3⟩⟩, ⟨1, ⟨-1, -1⟩⟩, ⟨0, ⟨2, 2⟩⟩] : List Say).take k⟩
@[go_sem] theorem k72 (a b : Int) (s : St) : lim tbl (.call 72 [i64 a, i64 b]) s = some (.ret, [.agg [i64 a, i64 b]], s) := by
  rw [lim_call tbl_72]; obtain ⟨N, O, p, q⟩ := s
  (try simp only [go_sem, ↓reduceIte, Nat.reduceAdd, Nat.reduceEqDiff, Nat.reduceLT, Nat.reduceLeDiff, Nat.reduceBEq, Int.reduceEq, Int.reduceLT, Int.reduceLE]); (repeat ((first | (rw [lt_yes]; rotate_left; (first | omega | (simp [lenOf, app]; omega) | (simp only [lenOf]; omega))) | (rw [lt_no]; rotate_left; (first | omega | (simp [lenOf, app]; omega) | (simp only [lenOf]; omega))) | (rw [idxA_at]; rotate_left; (first | omega | (simp [lenOf, app]; omega) | (simp only [lenOf]; omega))) | (rw [wr_up]; rotate_left; (first | omega | (simp [lenOf, app]; omega) | (simp only [lenOf]; omega))) | ((first | rw [drop_cI] | rw [drop_cE] | rw [drop_cS] | rw [drop_cP] | rw [drop_cR]); rotate_left; assumption)); try simp only [go_sem, ↓reduceIte, Nat.reduceAdd, Nat.reduceEqDiff, Nat.reduceLT, Nat.reduceLeDiff, Nat.reduceBEq, Int.reduceEq, Int.reduceLT, Int.reduceLE]))
section
variable (a b d e f g h i j : AVal) (pm : Perm)
theorem hi9_0 : sliceHi 3 (.vsl [a, b, d, e, f, g, h, i, j] 3 pm) (i64 0) = some (.vsl [] 0 .no) := rfl
theorem hi9_1 : sliceHi 3 (.vsl [a, b, d, e, f, g, h, i, j] 3 pm) (i64 1) = some (.vsl [a, b, d] 1 .no) := rfl
theorem hi9_2 : sliceHi 3 (.vsl [a, b, d, e, f, g, h, i, j] 3 pm) (i64 2) = some (.vsl [a, b, d, e, f, g] 2 .no) := rfl
theorem hi9_3 : sliceHi 3 (.vsl [a, b, d, e, f, g, h, i, j] 3 pm) (i64 3) = some (.vsl [a, b, d, e, f, g, h, i, j] 3 .no) := rfl
end
theorem k71_0 (s : St) : lim tbl (.call 71 [i64 0]) s = some (.ret, [vSl (fourS 0)], s) := by
  rw [lim_call tbl_71]; obtain ⟨N, O, p, q⟩ := s
  (try simp only [go_sem, ↓reduceIte, Nat.reduceAdd, Nat.reduceEqDiff, Nat.reduceLT, Nat.reduceLeDiff, Nat.reduceBEq, Int.reduceEq, Int.reduceLT, Int.reduceLE]); (repeat ((first | rw [hi9_0] | (rw [lt_yes]; rotate_left; (first | omega | (simp [lenOf, app]; omega) | (simp only [lenOf]; omega))) | (rw [lt_no]; rotate_left; (first | omega | (simp [lenOf, app]; omega) | (simp only [lenOf]; omega))) | (rw [idxA_at]; rotate_left; (first | omega | (simp [lenOf, app]; omega) | (simp only [lenOf]; omega))) | (rw [wr_up]; rotate_left; (first | omega | (simp [lenOf, app]; omega) | (simp only [lenOf]; omega))) | ((first | rw [drop_cI] | rw [drop_cE] | rw [drop_cS] | rw [drop_cP] | rw [drop_cR]); rotate_left; assumption)); try simp only [go_sem, ↓reduceIte, Nat.reduceAdd, Nat.reduceEqDiff, Nat.reduceLT, Nat.reduceLeDiff, Nat.reduceBEq, Int.reduceEq, Int.reduceLT, Int.reduceLE]))
  rfl
theorem k71_1 (s : St) : lim tbl (.call 71 [i64 1]) s = some (.ret, [vSl (fourS 1)], s) := by
  rw [lim_call tbl_71]; obtain ⟨N, O, p, q⟩ := s
  (try simp only [go_sem, ↓reduceIte, Nat.reduceAdd, Nat.reduceEqDiff, Nat.reduceLT, Nat.reduceLeDiff, Nat.reduceBEq, Int.reduceEq, Int.reduceLT, Int.reduceLE]); (repeat ((first | rw [hi9_1] | (rw [lt_yes]; rotate_left; (first | omega | (simp [lenOf, app]; omega) | (simp only [lenOf]; omega))) | (rw [lt_no]; rotate_left; (first | omega | (simp [lenOf, app]; omega) | (simp only [lenOf]; omega))) | (rw [idxA_at]; rotate_left; (first | omega | (simp [lenOf, app]; omega) | (simp only [lenOf]; omega))) | (rw [wr_up]; rotate_left; (first | omega | (simp [lenOf, app]; omega) | (simp only [lenOf]; omega))) | ((first | rw [drop_cI] | rw [drop_cE] | rw [drop_cS] | rw [drop_cP] | rw [drop_cR]); rotate_left; assumption)); try simp only [go_sem, ↓reduceIte, Nat.reduceAdd, Nat.reduceEqDiff, Nat.reduceLT, Nat.reduceLeDiff, Nat.reduceBEq, Int.reduceEq, Int.reduceLT, Int.reduceLE]))
  rfl
theorem k71_3 (s : St) : lim tbl (.call 71 [i64 3]) s = some (.ret, [vSl (fourS 3)], s) := by
  rw [lim_call tbl_71]; obtain ⟨N, O, p, q⟩ := s
  (try simp only [go_sem, ↓reduceIte, Nat.reduceAdd, Nat.reduceEqDiff, Nat.reduceLT, Nat.reduceLeDiff, Nat.reduceBEq, Int.reduceEq, Int.reduceLT, Int.reduceLE]); (repeat ((first | rw [hi9_3] | (rw [lt_yes]; rotate_left; (first | omega | (simp [lenOf, app]; omega) | (simp only [lenOf]; omega))) | (rw [lt_no]; rotate_left; (first | omega | (simp [lenOf, app]; omega) | (simp only [lenOf]; omega))) | (rw [idxA_at]; rotate_left; (first | omega | (simp [lenOf, app]; omega) | (simp only [lenOf]; omega))) | (rw [wr_up]; rotate_left; (first | omega | (simp [lenOf, app]; omega) | (simp only [lenOf]; omega))) | ((first | rw [drop_cI] | rw [drop_cE] | rw [drop_cS] | rw [drop_cP] | rw [drop_cR]); rotate_left; assumption)); try simp only [go_sem, ↓reduceIte, Nat.reduceAdd, Nat.reduceEqDiff, Nat.reduceLT, Nat.reduceLeDiff, Nat.reduceBEq, Int.reduceEq, Int.reduceLT, Int.reduceLE]))
  rfl
theorem x52 (s : St) : lim tbl (.call 52 [vSl (fourS 0), .vsl [i64 3, i64 2, i64 1] 3 .full]) s = some (.ret, [.tup [sl cI [3, -1, -3, 1], i64 0]], s) := by
  have h1 : playL (fourS 0) [3, 2, 1] = [3, -1, -3, 1] := by kernel_rfl
  have h2 : playErr (fourS 0) [3, 2, 1] = 0 := by kernel_rfl
  have h := k52 (fourS 0) [3, 2, 1] good_of_check s
  rw [h1, h2] at h
  rw [← h]
  exact call_norm tbl_52 rfl (by kernel_rfl) s
theorem x23 (s : St) : lim tbl (.call 23 [vSl (fourS 1)]) s = some (.ret, [.tup [.vsl [i64 2, i64 3, i64 (-1), i64 0, i64 (-4), i64 (-3), i64 1, i64 2] 4 .no, i64 0]], s) := by
  have h1 : boundsL (fourS 1) = [⟨2, 3⟩, ⟨-1, 0⟩, ⟨-4, -3⟩, ⟨1, 2⟩] := by kernel_rfl
  have h2 : askedErr (fourS 1) = 0 := by kernel_rfl
  have h := k23 (fourS 1) s
  rw [h1, h2] at h
  exact h
theorem x25 (s : St) : lim tbl (.call 25 [vSl (fourS 0)]) s = some (.ret, [.tup [sl cI [2, 3, 1, 2], i64 0]], s) := by
  have h1 : (boundsL (fourS 0)).map owesF = [2, 3, 1, 2] := by kernel_rfl
  have h2 : askedErr (fourS 0) = 0 := by kernel_rfl
  have h := k25 (fourS 0) s
  rw [h1, h2] at h
  exact h
theorem x53 (s : St) : lim tbl (.call 53 [vSl (fourS 0), .vsl [i64 2, i64 2, i64 4] 3 .full]) s = some (.ret, [.tup [sl cP [⟨2, 0, 2⟩, ⟨2, 3, 4⟩], i64 0]], s) := by
  have h1 : settleP (fourS 0) [2, 2, 4] = [⟨2, 0, 2⟩, ⟨2, 3, 4⟩] := by kernel_rfl
  have h2 : playErr (fourS 0) [2, 2, 4] = 0 := by kernel_rfl
  have h := k53 (fourS 0) [2, 2, 4] s
  rw [h1, h2] at h
  rw [← h]
  exact call_norm tbl_53 rfl (by kernel_rfl) s
theorem x30 (s : St) : lim tbl (.call 30 [vSl (fourS 0), .vsl [i64 3, i64 2, i64 1] 3 .full]) s = some (.ret, [.tup [sl cL [[0, 2], [1, 3]], i64 0]], s) := by
  have h1 : groupsP (fourS 0) [3, 2, 1] = [[0, 2], [1, 3]] := by kernel_rfl
  have h2 : playErr (fourS 0) [3, 2, 1] = 0 := by kernel_rfl
  have h := k30 (fourS 0) [3, 2, 1] s
  rw [h1, h2] at h
  rw [← h]
  exact call_norm tbl_30 rfl (by kernel_rfl) s
theorem x38 (s : St) : lim tbl (.call 38 [vSl (fourS 0)]) s = some (.ret, [.tup [.agg [i64 2, i64 3], i64 0]], s) := by
  have h1 : fewestP (fourS 0) = (2, 3) := by kernel_rfl
  have h2 : askedErr (fourS 0) = 0 := by kernel_rfl
  have h := k38 (fourS 0) s
  rw [h1, h2] at h
  exact h
theorem x40 (s : St) : lim tbl (.call 40 [vSl (fourS 3)]) s = some (.ret, [.tup [i64 2, i64 0]], s) := by
  have h1 : firstA (fourS 3) = 2 := by kernel_rfl
  have h2 : firstE (fourS 3) = 0 := by kernel_rfl
  have h := k40 (fourS 3) s
  rw [h1, h2] at h
  exact h
theorem x41 (s : St) : lim tbl (.call 41 [vSl (fourS 3)]) s = some (.ret, [.tup [sl cI [1], i64 0]], s) := by
  have h1 : leaveL (fourS 3) = [1] := by kernel_rfl
  have h2 : checkSlate (fourS 3) = 0 := by kernel_rfl
  have h := k41 (fourS 3) s
  rw [h1, h2] at h
  exact h
theorem x43 (a : List Int) (cs : List AVal) (n : Nat) (h : sl cI a = .vsl cs n .no) (hn : norms cs = cs) (hl : a.length < 1000) (s : St) : lim tbl (.call 43 [sl cI a, .vsl cs n .full]) s = some (.ret, [.bool true], s) := by
  have h1 := k43 a a (by omega) s
  have h2 : sameL a a = true := by simp [sameL]
  rw [h2] at h1
  rw [← h1]
  refine call_norm tbl_43 rfl ?_ s
  rw [h]; simp [norms, AVal.norm, hn]
/-- The document's first examples are returned. -/
theorem k22 (s : St) : lim tbl (.call 22 []) s = some (.ret, [.bool true], s) := by
  have a1 := fun s => x43 [3, -1, -3, 1] [i64 3, i64 (-1), i64 (-3), i64 1] 4 rfl rfl (by simp) s
  have a2 := fun s => x43 [2, 3, 1, 2] [i64 2, i64 3, i64 1, i64 2] 4 rfl rfl (by simp) s
  have a3 := fun s => x43 [1] [i64 1] 1 rfl rfl (by simp) s
  have l2 : lenOf ([⟨2, 0, 2⟩, ⟨2, 3, 4⟩] : List Pay) = 2 := rfl
  have l3 : lenOf ([[0, 2], [1, 3]] : List (List Int)) = 2 := rfl
  rw [lim_call tbl_22]; obtain ⟨N, O, p, q⟩ := s
  (try simp only [go_sem, ↓reduceIte, Nat.reduceAdd, Nat.reduceEqDiff, Nat.reduceLT, Nat.reduceLeDiff, Nat.reduceBEq, Int.reduceEq, Int.reduceLT, Int.reduceLE]); (repeat ((first | simp only [k71_0, k71_1, k71_3] | simp only [x52, x23, x25, x53, x30, x38, x40, x41] | simp only [a1, a2, a3] | rw [l2] | rw [l3] | (rw [lt_yes]; rotate_left; (first | omega | (simp [lenOf, app]; omega) | (simp only [lenOf]; omega))) | (rw [lt_no]; rotate_left; (first | omega | (simp [lenOf, app]; omega) | (simp only [lenOf]; omega))) | (rw [idxA_at]; rotate_left; (first | omega | (simp [lenOf, app]; omega) | (simp only [lenOf]; omega))) | (rw [wr_up]; rotate_left; (first | omega | (simp [lenOf, app]; omega) | (simp only [lenOf]; omega))) | ((first | rw [drop_cI] | rw [drop_cE] | rw [drop_cS] | rw [drop_cP] | rw [drop_cR]); rotate_left; assumption)); try simp only [go_sem, ↓reduceIte, Nat.reduceAdd, Nat.reduceEqDiff, Nat.reduceLT, Nat.reduceLeDiff, Nat.reduceBEq, Int.reduceEq, Int.reduceLT, Int.reduceLE]))
end Go.Proofs.Ytlhfeiacigmliaa

/- The wash-house's soap, plain law: all ounces are gone through by the program as by the document; which sayings are right together. -/
namespace Go.Proofs.Ytlhfeiacigmliaa
open Go
set_option maxRecDepth 10000

/-! all ounces, listed twice -/
theorem mem_rngUp {x : Int} : ∀ {m : Nat} {v : Int}, x ∈ rngUp v m ↔ v ≤ x ∧ x < v + m
  | 0, v => by simp [rngUp]
  | m + 1, v => by
    rw [rngUp, List.mem_cons, mem_rngUp]
    push_cast
    omega
theorem mem_ozs : ∀ {es : List Ent} {L : List Int}, OkE es → (L ∈ ozs es ↔ areOz es L = true)
  | [], L, _ => by
    cases L with
    | nil => simp [ozs, areOz]
    | cons a L => simp [ozs, areOz]
  | e :: es, L, h => by
    have ih := fun L => mem_ozs (es := es) (L := L) fun e he => h e (by simp [he])
    have he := h e (by simp)
    rw [ozs, List.mem_flatMap]
    constructor
    · rintro ⟨v, hv, hL⟩
      rw [List.mem_map] at hL
      obtain ⟨L', h1, rfl⟩ := hL
      rw [mem_rngUp] at hv
      simp only [areOz, Bool.and_eq_true, within_iff]
      refine ⟨?_, (ih L').1 h1⟩
      unfold szN at hv; omega
    · intro hL
      cases L with
      | nil => simp [areOz] at hL
      | cons v L =>
        simp only [areOz, Bool.and_eq_true, within_iff] at hL
        refine ⟨v, ?_, List.mem_map.2 ⟨L, (ih L).2 hL.2, rfl⟩⟩
        rw [mem_rngUp]; unfold szN; omega
theorem nth_areOz : ∀ {es : List Ent} (_ : OkE es) (n : Nat), areOz es (nthRef es n) = true
  | [], _, n => rfl
  | e :: es, h, n => by
    have he := h e (by simp)
    have hp := szN_pos he.2.1
    rw [nthRef]
    simp only [areOz, Bool.and_eq_true, within_iff]
    refine ⟨?_, nth_areOz (fun e he => h e (by simp [he])) _⟩
    have hm : n % szN e.oz.lo e.oz.hi < szN e.oz.lo e.oz.hi := Nat.mod_lt _ (Nat.pos_of_ne_zero hp)
    unfold bmod
    simp only [Int.ofNat_eq_natCast]
    have : ((szN e.oz.lo e.oz.hi : Nat) : Int) = e.oz.hi - e.oz.lo + 1 := by unfold szN; omega
    omega
theorem areOz_nth : ∀ {es : List Ent} (_ : OkE es) {L : List Int}, areOz es L = true → ∃ n, n < prodN es ∧ nthRef es n = L
  | [], _, L, h => by
    cases L with
    | nil => exact ⟨0, by simp [prodN], rfl⟩
    | cons a L => simp [areOz] at h
  | e :: es, ho, L, h => by
    cases L with
    | nil => simp [areOz] at h
    | cons v L =>
      simp only [areOz, Bool.and_eq_true, within_iff] at h
      have he := ho e (by simp)
      have hp := szN_pos he.2.1
      obtain ⟨n, hn, hL⟩ := areOz_nth (fun e he => ho e (by simp [he])) h.2
      have hsz : ((szN e.oz.lo e.oz.hi : Nat) : Int) = e.oz.hi - e.oz.lo + 1 := by unfold szN; omega
      obtain ⟨k, hk⟩ : ∃ k : Nat, v = e.oz.lo + (k : Int) := ⟨(v - e.oz.lo).toNat, by omega⟩
      have hkl : k < szN e.oz.lo e.oz.hi := by omega
      generalize hz : szN e.oz.lo e.oz.hi = z at *
      refine ⟨k + z * n, ?_, ?_⟩
      · rw [prodN, hz]
        have : z * n + z ≤ z * prodN es := by
          have := Nat.mul_le_mul_left z (show n + 1 ≤ prodN es by omega)
          rwa [Nat.mul_add, Nat.mul_one] at this
        omega
      · rw [nthRef, hz]
        have h1 : bmod (k + z * n) z = k := by unfold bmod; rw [Nat.add_mul_mod_self_left, Nat.mod_eq_of_lt hkl]
        have h2 : (k + z * n) / z = n := by rw [Nat.add_mul_div_left _ _ (by omega), Nat.div_eq_of_lt hkl]; omega
        rw [h1, h2, hL, hk]; rfl

/-! which sayings are right -/
theorem bor_test (a i j : Nat) : (bor a (pw i)).testBit j = (a.testBit j || decide (i = j)) := by
  unfold bor pw; rw [Nat.testBit_or, Nat.testBit_two_pow]
theorem orUp_test (P : Say → Bool) : ∀ (l : List Say) (n i j : Nat), (orUp P n i l).testBit j = (n.testBit j || (decide (i ≤ j) && (match l[j - i]? with | some x => P x | none => false)))
  | [], n, i, j => by simp [orUp]
  | x :: l, n, i, j => by
    rw [orUp, orUp_test P l]
    by_cases hij : i = j
    · subst hij
      have h1 : ¬ i + 1 ≤ i := by omega
      simp only [h1, decide_false, Bool.false_and, Bool.or_false, Nat.le_refl, decide_true, Bool.true_and, Nat.sub_self, List.getElem?_cons_zero]
      cases hx : P x with
      | true => simp [bor_test]
      | false => simp
    · have h0 : (if P x then bor n (pw i) else n).testBit j = n.testBit j := by
        cases P x with
        | true => simp [bor_test, hij]
        | false => rfl
      rw [h0]
      by_cases hlt : i < j
      · have h1 : j - i = (j - (i + 1)) + 1 := by omega
        have h2 : i + 1 ≤ j := hlt
        have h3 : i ≤ j := by omega
        rw [h1]; simp [h2, h3]
      · have h2 : ¬ i + 1 ≤ j := by omega
        have h3 : ¬ i ≤ j := by omega
        simp [h2, h3]
/-- A saying is right by its bit. -/
theorem rightN_test (S : Slate) (L : List Int) (j : Nat) : (rightN S L).testBit j = (match S.ss[j]? with | some x => rightOk S.es L x | none => false) := by
  unfold rightN
  rw [orUp_test]; simp
theorem band_iff (a m : Nat) : band a m = m ↔ ∀ i, m.testBit i = true → a.testBit i = true := by
  unfold band
  constructor
  · intro h i hi
    have := congrArg (fun x => x.testBit i) h
    simp only [Nat.testBit_and, hi, Bool.and_true] at this
    exact this
  · intro h
    apply Nat.eq_of_testBit_eq
    intro i
    rw [Nat.testBit_and]
    cases hm : m.testBit i with
    | false => simp
    | true => simp [h i hm]
theorem hasI_iff (L : List Int) (i : Nat) : hasI L (Int.ofNat i) = true ↔ Int.ofNat i ∈ L := by
  simp [hasI]
theorem rightUp_iff (a : Nat → Int) (out : List Int) : ∀ (l : List Say) (i : Nat), rightUp a out i l = true ↔ ∀ j x, l[j]? = some x → (Int.ofNat (i + j) ∈ out ∨ within (a x.w.toNat) x.ow.lo x.ow.hi = true)
  | [], i => by simp [rightUp]
  | x :: l, i => by
    rw [rightUp]
    simp only [Bool.and_eq_true, Bool.or_eq_true, hasI_iff]
    rw [rightUp_iff a out l (i + 1)]
    constructor
    · rintro ⟨h1, h2⟩ j y hy
      cases j with
      | zero => simp only [List.getElem?_cons_zero, Option.some.injEq] at hy; subst hy; exact h1
      | succ j =>
        have := h2 j y (by simpa using hy)
        rwa [show i + (j + 1) = i + 1 + j by omega]
    · intro h
      refine ⟨h 0 x rfl, fun j y hy => ?_⟩
      have := h (j + 1) y (by simpa using hy)
      rwa [show i + (j + 1) = i + 1 + j by omega] at this
/-- The numbers of all ounces' right sayings. -/
def allN (S : Slate) : List Nat := (List.range' 0 (prodN S.es)).map fun n => rightN S (nthRef S.es n)
theorem allRef_eq (S : Slate) : allRef S (prodN S.es) = ints (allN S) := by
  unfold allRef upto allN ints
  rw [List.map_map]
  induction List.range' 0 (prodN S.es) with
  | nil => rfl
  | cons n l ih => rw [List.flatMap_cons, ih]; rfl
theorem can_iff {S : Slate} (hG : Good S) (m : Nat) : can (allN S) m = true ↔ ∃ L, areOz S.es L = true ∧ ∀ i, m.testBit i = true → (rightN S L).testBit i = true := by
  unfold can anyB allN
  rw [List.any_eq_true]
  constructor
  · rintro ⟨a, ha, hb⟩
    rw [List.mem_map] at ha
    obtain ⟨n, _, rfl⟩ := ha
    exact ⟨_, nth_areOz hG.oe n, (band_iff _ _).1 (of_decide_eq_true hb)⟩
  · rintro ⟨L, hL, hb⟩
    obtain ⟨n, hn, rfl⟩ := areOz_nth hG.oe hL
    exact ⟨_, List.mem_map.2 ⟨n, by rw [List.mem_range'_1]; omega, rfl⟩, decide_eq_true ((band_iff _ _).2 hb)⟩
theorem possible_iff {S : Slate} (hG : Good S) (out : List Int) : possibleB S out = true ↔ ∃ L, areOz S.es L = true ∧ ∀ i x, S.ss[i]? = some x → Int.ofNat i ∈ out ∨ rightOk S.es L x = true := by
  unfold possibleB
  rw [List.any_eq_true]
  have key : ∀ (L : List Int) (i : Nat) (x : Say), S.ss[i]? = some x → within (owV S.es L x.w.toNat) x.ow.lo x.ow.hi = rightOk S.es L x := by
    intro L i x hx
    obtain ⟨u, _, hu⟩ := hG.os x (List.mem_of_getElem? hx)
    unfold owV rightOk
    rw [hu]; rfl
  constructor
  · rintro ⟨L, h1, h2⟩
    refine ⟨L, (mem_ozs hG.oe).1 h1, fun i x hx => ?_⟩
    have := (rightUp_iff _ _ _ _).1 h2 i x hx
    rwa [Nat.zero_add, key L i x hx] at this
  · rintro ⟨L, h1, h2⟩
    refine ⟨L, (mem_ozs hG.oe).2 h1, (rightUp_iff _ _ _ _).2 fun i x hx => ?_⟩
    rw [Nat.zero_add, key L i x hx]; exact h2 i x hx
/-- Sayings are possible by the program as by the document. -/
theorem possible_can {S : Slate} (hG : Good S) (out : List Int) (m : Nat) (hm : ∀ i, m.testBit i = true ↔ i < S.ss.length ∧ Int.ofNat i ∉ out) : possibleB S out = can (allN S) m := by
  rw [Bool.eq_iff_iff, possible_iff hG, can_iff hG]
  constructor
  · rintro ⟨L, h1, h2⟩
    refine ⟨L, h1, fun i hi => ?_⟩
    obtain ⟨hl, hn⟩ := (hm i).1 hi
    rw [rightN_test, List.getElem?_eq_getElem hl]
    rcases h2 i _ (List.getElem?_eq_getElem hl) with h | h
    · exact absurd h hn
    · exact h
  · rintro ⟨L, h1, h2⟩
    refine ⟨L, h1, fun i x hx => ?_⟩
    by_cases hin : Int.ofNat i ∈ out
    · exact Or.inl hin
    · right
      have hl : i < S.ss.length := by
        rcases Nat.lt_or_ge i S.ss.length with h | h
        · exact h
        · rw [List.getElem?_eq_none h] at hx; cases hx
      have := h2 i ((hm i).2 ⟨hl, hin⟩)
      rwa [rightN_test, hx] at this
end Go.Proofs.Ytlhfeiacigmliaa

/- The wash-house's soap, plain law: the first wrong saying, and the smallest set, are as the document says. -/
namespace Go.Proofs.Ytlhfeiacigmliaa
open Go
set_option maxRecDepth 10000

theorem fullN_test (n i : Nat) : (fullN n).testBit i = decide (i < n) := by
  unfold fullN pw; rw [Nat.testBit_two_pow_sub_one]
theorem maskN_test (n i : Nat) : (maskN n).testBit i = decide (i < n + 1) := by
  have : maskN n = 2 ^ (n + 1) - 1 := by unfold maskN pw; rw [Nat.pow_succ]; omega
  rw [this, Nat.testBit_two_pow_sub_one]
theorem bsub_test (a b i : Nat) : (bsub a b).testBit i = (a.testBit i && !b.testBit i) := by
  unfold bsub; rw [Nat.testBit_and, Nat.testBit_xor]
  cases a.testBit i <;> cases b.testBit i <;> rfl
/-- The sayings up to one. -/
theorem first_can {S : Slate} (hG : Good S) {i : Nat} (hi : i < S.ss.length) : possibleB ⟨S.women, S.es, S.ss.take (i + 1)⟩ [] = can (allN S) (maskN i) := by
  have hGt : Good ⟨S.women, S.es, S.ss.take (i + 1)⟩ := Good.take (w := S.women) (es := S.es) (ss := S.ss) hG (i + 1)
  rw [Bool.eq_iff_iff, possible_iff hGt, can_iff hG]
  constructor
  · rintro ⟨L, h1, h2⟩
    refine ⟨L, h1, fun j hj => ?_⟩
    rw [maskN_test, decide_eq_true_eq] at hj
    have hl : j < S.ss.length := by omega
    have hx : (S.ss.take (i + 1))[j]? = some S.ss[j] := by rw [List.getElem?_take_of_lt hj, List.getElem?_eq_getElem hl]
    rcases h2 j _ hx with h | h
    · simp at h
    · rw [rightN_test, List.getElem?_eq_getElem hl]; exact h
  · rintro ⟨L, h1, h2⟩
    refine ⟨L, h1, fun j x hx => Or.inr ?_⟩
    have hj : j < i + 1 := by
      rcases Nat.lt_or_ge j (i + 1) with h | h
      · exact h
      · rw [List.getElem?_eq_none (by simp; omega)] at hx; cases hx
    simp only at hx
    rw [List.getElem?_take_of_lt hj] at hx
    have := h2 j (by rw [maskN_test]; simpa using hj)
    rwa [rightN_test, hx] at this
theorem first_eq {S : Slate} (hG : Good S) : ∀ (k i : Nat), i + k = S.ss.length → firstUp (allN S) k i = (match firstPUp S k i with | none => -1 | some j => Int.ofNat j)
  | 0, i, _ => rfl
  | k + 1, i, h => by
    rw [firstUp, firstPUp, first_can hG (by omega)]
    cases can (allN S) (maskN i) with
    | true => simp only [if_true]; exact first_eq hG k (i + 1) (by omega)
    | false => rfl

/-! the order of the sets -/
theorem beforeL_trans : ∀ {a b c : List Int}, beforeL a b = true → beforeL b c = true → beforeL a c = true
  | [], [], _, h, _ => by simp [beforeL] at h
  | [], _ :: _, [], _, h => by simp [beforeL] at h
  | [], _ :: _, _ :: _, _, _ => rfl
  | _ :: _, [], _, h, _ => by simp [beforeL] at h
  | _ :: _, _ :: _, [], _, h => by simp [beforeL] at h
  | x :: a, y :: b, z :: c, h, h' => by
    simp only [beforeL] at h h' ⊢
    by_cases h1 : x = y
    · subst h1
      rw [if_pos rfl] at h
      by_cases h2 : x = z
      · subst h2
        rw [if_pos rfl] at h' ⊢
        exact beforeL_trans h h'
      · rw [if_neg h2] at h' ⊢; exact h'
    · rw [if_neg h1, decide_eq_true_eq] at h
      by_cases h2 : y = z
      · subst h2; rw [if_neg h1, decide_eq_true_eq]; exact h
      · rw [if_neg h2, decide_eq_true_eq] at h'
        rw [if_neg (by omega), decide_eq_true_eq]; omega
theorem beforeL_irrefl : ∀ a : List Int, beforeL a a = false
  | [] => rfl
  | x :: a => by rw [beforeL, if_pos rfl]; exact beforeL_irrefl a
theorem shorterL_iff {a b : List Int} : shorterL a b = true ↔ a.length < b.length ∨ a.length = b.length ∧ beforeL a b = true := by
  unfold shorterL
  rw [Bool.or_eq_true, Bool.and_eq_true, decide_eq_true_iff, decide_eq_true_iff]
  exact Iff.rfl
theorem shorterL_trans {a b c : List Int} (h : shorterL a b = true) (h' : shorterL b c = true) : shorterL a c = true := by
  rw [shorterL_iff] at *
  rcases h with h | ⟨h, g⟩ <;> rcases h' with h' | ⟨h', g'⟩
  · left; omega
  · left; omega
  · left; omega
  · right; exact ⟨by omega, beforeL_trans g g'⟩
theorem shorterL_irrefl (a : List Int) : shorterL a a = false := by
  cases h : shorterL a a with
  | false => rfl
  | true =>
    rw [shorterL_iff] at h
    rcases h with h | ⟨_, h⟩
    · omega
    · rw [beforeL_irrefl] at h; cases h

/-! the smallest set, of the document's answer -/
theorem leave_min (ns : List Nat) (F : Nat) : ∀ (k b : Nat) (best : List Int),
    (leaveUp ns F k b best = best ∨ ∃ b', b ≤ b' ∧ b' < b + k ∧ leaveUp ns F k b best = bitsOf b' ∧ can ns (bsub F b') = true) ∧
    (leaveUp ns F k b best = best ∨ shorterL (leaveUp ns F k b best) best = true) ∧
    ∀ b', b ≤ b' → b' < b + k → can ns (bsub F b') = true → shorterL (bitsOf b') (leaveUp ns F k b best) = false
  | 0, b, best => by
    refine ⟨Or.inl rfl, Or.inl rfl, fun b' h1 h2 => by omega⟩
  | k + 1, b, best => by
    rw [leaveUp]
    cases hs : shorterL (bitsOf b) best && can ns (bsub F b) with
    | true =>
      simp only [if_true]
      simp only [Bool.and_eq_true] at hs
      obtain ⟨i1, i2, i3⟩ := leave_min ns F k (b + 1) (bitsOf b)
      refine ⟨?_, ?_, fun b' h1 h2 h3 => ?_⟩
      · right
        rcases i1 with h | ⟨b', h1, h2, h3, h4⟩
        · exact ⟨b, by omega, by omega, h, hs.2⟩
        · exact ⟨b', by omega, by omega, h3, h4⟩
      · right
        rcases i2 with h | h
        · rw [h]; exact hs.1
        · exact shorterL_trans h hs.1
      · by_cases he : b' = b
        · subst he
          rcases i2 with h | h
          · rw [h]; exact shorterL_irrefl _
          · cases hx : shorterL (bitsOf b') (leaveUp ns F k (b' + 1) (bitsOf b')) with
            | false => rfl
            | true => have := shorterL_trans hx h; rw [shorterL_irrefl] at this; cases this
        · exact i3 b' (by omega) (by omega) h3
    | false =>
      simp only [Bool.false_eq_true, if_false]
      obtain ⟨i1, i2, i3⟩ := leave_min ns F k (b + 1) best
      refine ⟨?_, i2, fun b' h1 h2 h3 => ?_⟩
      · rcases i1 with h | ⟨b', h1, h2, h3, h4⟩
        · exact Or.inl h
        · exact Or.inr ⟨b', by omega, by omega, h3, h4⟩
      · by_cases he : b' = b
        · subst he
          rw [h3, Bool.and_true] at hs
          rcases i2 with h | h
          · rw [h]; exact hs
          · cases hx : shorterL (bitsOf b') (leaveUp ns F k (b' + 1) best) with
            | false => rfl
            | true => have := shorterL_trans hx h; rw [this] at hs; cases hs
        · exact i3 b' (by omega) (by omega) h3

/-! all sets, in the program's order -/
def allSets (n : Nat) : List (List Int) := (List.range' 0 (n + 1)).flatMap fun j => combs n j 0
def pairB (l : List (List Int)) : Bool := match l with
  | [] => true
  | a :: l => (l.all fun b => shorterL a b) && pairB l
theorem sets_mem : ∀ n, n ≤ 5 → ∀ b, b < pw n → bitsOf b ∈ allSets n := by
  have h : ((List.range 6).all fun n => (List.range (pw n)).all fun b => (allSets n).contains (bitsOf b)) = true := by kernel_rfl
  intro n hn b hb
  rw [List.all_eq_true] at h
  have h1 := h n (by simp; omega)
  rw [List.all_eq_true] at h1
  have h2 := h1 b (by simpa using hb)
  simpa using h2
theorem sets_bits : ∀ n, n ≤ 5 → ∀ l ∈ allSets n, ∃ b, b < pw n ∧ l = bitsOf b := by
  have h : ((List.range 6).all fun n => (allSets n).all fun l => (List.range (pw n)).any fun b => l == bitsOf b) = true := by kernel_rfl
  intro n hn l hl
  rw [List.all_eq_true] at h
  have h1 := h n (by simp; omega)
  rw [List.all_eq_true] at h1
  have h2 := h1 l hl
  rw [List.any_eq_true] at h2
  obtain ⟨b, hb, he⟩ := h2
  exact ⟨b, by simpa using hb, by simpa using he⟩
theorem sets_pair : ∀ n, n ≤ 5 → pairB (allSets n) = true := by
  have h : ((List.range 6).all fun n => pairB (allSets n)) = true := by kernel_rfl
  intro n hn
  rw [List.all_eq_true] at h
  exact h n (by simp; omega)
theorem pairB_split : ∀ {pre : List (List Int)} {x : List Int} {post : List (List Int)}, pairB (pre ++ x :: post) = true → ∀ y ∈ post, shorterL x y = true
  | [], x, post, h, y, hy => by
    simp only [List.nil_append, pairB, Bool.and_eq_true, List.all_eq_true] at h
    exact h.1 y hy
  | a :: pre, x, post, h, y, hy => by
    simp only [List.cons_append, pairB, Bool.and_eq_true] at h
    exact pairB_split h.2 y hy
theorem tried_split (S : Slate) : ∀ (l : List (List Int)) (x : List Int), (∃ a ∈ l, possibleB S a = true) → ∃ pre a post, l = pre ++ a :: post ∧ possibleB S a = true ∧ (∀ y ∈ pre, possibleB S y = false) ∧ (tried S l x).1 = a
  | [], _, h => by obtain ⟨a, ha, _⟩ := h; simp at ha
  | b :: l, x, h => by
    unfold tried
    rw [iterL]
    cases hb : possibleB S b with
    | true => exact ⟨[], b, l, rfl, hb, by simp, by simp⟩
    | false =>
      obtain ⟨a, ha, hp⟩ := h
      simp only [List.mem_cons] at ha
      have ha' : a ∈ l := by
        rcases ha with ha | ha
        · subst ha; rw [hb] at hp; cases hp
        · exact ha
      obtain ⟨pre, c, post, e1, e2, e3, e4⟩ := tried_split S l b ⟨a, ha', hp⟩
      refine ⟨b :: pre, c, post, by rw [e1]; rfl, e2, fun y hy => ?_, ?_⟩
      · simp only [List.mem_cons] at hy
        rcases hy with hy | hy
        · rw [hy]; exact hb
        · exact e3 y hy
      · simpa [tried] using e4
theorem mem_bitsOf {b i : Nat} (hi : i < 60) : Int.ofNat i ∈ bitsOf b ↔ b.testBit i = true := by
  unfold bitsOf upto
  rw [List.mem_flatMap]
  have hb : ∀ j, (bmod (bshr b j) 2 = 1) = (b.testBit j = true) := fun j => by
    rw [Nat.testBit_eq_decide_div_mod_eq, decide_eq_true_eq]
    unfold bmod bshr; rw [Nat.shiftRight_eq_div_pow]
  constructor
  · rintro ⟨j, _, hj⟩
    unfold bitF at hj
    split at hj
    · rename_i ht
      rw [hb] at ht
      simp only [List.mem_singleton] at hj
      have : i = j := Int.ofNat.inj hj
      subst this; exact ht
    · simp at hj
  · intro ht
    refine ⟨i, by rw [List.mem_range'_1]; omega, ?_⟩
    unfold bitF
    rw [if_pos (by rw [hb]; exact ht)]; simp
/-- The smallest sets are the same. -/
theorem leave_eq {S : Slate} (hc : checkSlate S = 0) : leaveL S = leaveRef (allN S) (lenOf S.ss) := by
  have hG := good_of_check hc
  have hn : S.ss.length ≤ 5 := hG.s5
  have hl : leaveL S = (tried S (allSets S.ss.length) []).1 := by
    unfold leaveL allSets; rw [if_neg (by simp [hc])]
  have hP : ∀ b, b < pw S.ss.length → possibleB S (bitsOf b) = can (allN S) (bsub (fullN S.ss.length) b) := fun b hb => by
    refine possible_can hG _ _ fun i => ?_
    rw [bsub_test, fullN_test]
    simp only [Bool.and_eq_true, decide_eq_true_eq, Bool.not_eq_true']
    constructor
    · rintro ⟨h1, h2⟩
      refine ⟨h1, fun h3 => ?_⟩
      rw [mem_bitsOf (by omega), h2] at h3; cases h3
    · rintro ⟨h1, h2⟩
      refine ⟨h1, ?_⟩
      rw [mem_bitsOf (by omega)] at h2
      simpa using h2
  have hF : fullN S.ss.length < pw S.ss.length := by have := pw_pos S.ss.length; unfold fullN; omega
  have hlast : can (allN S) (bsub (fullN S.ss.length) (fullN S.ss.length)) = true := by
    rw [can_iff hG]
    refine ⟨nthRef S.es 0, nth_areOz hG.oe 0, fun i hi => ?_⟩
    rw [bsub_test] at hi
    cases h : (fullN S.ss.length).testBit i <;> simp [h] at hi
  obtain ⟨m1, _, m3⟩ := leave_min (allN S) (fullN S.ss.length) (fullN S.ss.length + 1) 0 (bitsOf (fullN S.ss.length))
  change leaveRef (allN S) S.ss.length = _ ∨ _ at m1
  have hpos := pw_pos S.ss.length
  have hFF : fullN S.ss.length + 1 = pw S.ss.length := by unfold fullN; omega
  obtain ⟨b2, hb2, he2, hc2⟩ : ∃ b2, b2 < pw S.ss.length ∧ leaveRef (allN S) S.ss.length = bitsOf b2 ∧ can (allN S) (bsub (fullN S.ss.length) b2) = true := by
    rcases m1 with h | ⟨b', _, h2, h3, h4⟩
    · exact ⟨_, hF, h, hlast⟩
    · exact ⟨b', by omega, h3, h4⟩
  have hmin : ∀ b', b' < pw S.ss.length → can (allN S) (bsub (fullN S.ss.length) b') = true → shorterL (bitsOf b') (leaveRef (allN S) S.ss.length) = false := fun b' h1 h2 => m3 b' (by omega) (by omega) h2
  obtain ⟨pre, a, post, e1, e2, e3, e4⟩ := tried_split S (allSets S.ss.length) [] ⟨bitsOf b2, sets_mem _ hn b2 hb2, by rw [hP b2 hb2]; exact hc2⟩
  rw [hl, e4]
  show a = leaveRef (allN S) S.ss.length
  have ham : a ∈ allSets S.ss.length := by rw [e1]; simp
  obtain ⟨b1, hb1, he1⟩ := sets_bits _ hn a ham
  have hm1 := hmin b1 hb1 (by rw [← hP b1 hb1, ← he1]; exact e2)
  rw [← he1] at hm1
  have h2m := sets_mem _ hn b2 hb2
  rw [e1, List.mem_append, List.mem_cons, ← he2] at h2m
  rcases h2m with h | h | h
  · have := e3 _ h
    rw [he2, hP b2 hb2, hc2] at this; cases this
  · exact h.symm
  · have hp := sets_pair _ hn
    rw [e1] at hp
    have := pairB_split hp _ h
    rw [this] at hm1; cases hm1
end Go.Proofs.Ytlhfeiacigmliaa

/- The wash-house's soap, plain law: what is asked of all truths is as the document says. -/
namespace Go.Proofs.Ytlhfeiacigmliaa
open Go
set_option maxRecDepth 10000

theorem fullN_test' (n i : Nat) : (fullN n).testBit i = decide (i < n) := by
  unfold fullN pw; rw [Nat.testBit_two_pow_sub_one]
/-- All sayings are right with these ounces. -/
def AllRight (S : Slate) (L : List Int) : Prop := ∀ (i : Nat) (x : Say), S.ss[i]? = some x → rightOk S.es L x = true
theorem full_iff (S : Slate) (L : List Int) : rightN S L = fullN (lenOf S.ss) ↔ AllRight S L := by
  constructor
  · intro h i x hx
    have hl : i < S.ss.length := by
      rcases Nat.lt_or_ge i S.ss.length with h | h
      · exact h
      · rw [List.getElem?_eq_none h] at hx; cases hx
    have h1 : (rightN S L).testBit i = true := by rw [h, fullN_test']; exact decide_eq_true hl
    rwa [rightN_test, hx] at h1
  · intro h
    apply Nat.eq_of_testBit_eq
    intro i
    rw [rightN_test, fullN_test']
    by_cases hl : i < S.ss.length
    · have := h i _ (List.getElem?_eq_getElem hl)
      rw [List.getElem?_eq_getElem hl]
      simp only [this]
      exact (decide_eq_true hl).symm
    · rw [List.getElem?_eq_none (by omega)]
      exact (decide_eq_false hl).symm
theorem right_all {S : Slate} (hG : Good S) (L : List Int) : rightUp (owV S.es L) [] 0 S.ss = true ↔ AllRight S L := by
  rw [rightUp_iff]
  constructor
  · intro h i x hx
    obtain ⟨u, _, hu⟩ := hG.os x (List.mem_of_getElem? hx)
    rcases h i x hx with h | h
    · simp at h
    · unfold owV at h; unfold rightOk; rw [hu] at h ⊢; exact h
  · intro h i x hx
    obtain ⟨u, _, hu⟩ := hG.os x (List.mem_of_getElem? hx)
    right
    have := h i x hx
    unfold rightOk at this; unfold owV; rw [hu] at this ⊢; exact this
theorem mem_truths {S : Slate} (hG : Good S) (L : List Int) : L ∈ truths S (prodN S.es) ↔ areOz S.es L = true ∧ AllRight S L := by
  unfold truths upto
  rw [List.mem_flatMap]
  constructor
  · rintro ⟨n, _, h⟩
    unfold truthF at h
    split at h
    · rename_i hf
      simp only [List.mem_singleton] at h
      subst h
      exact ⟨nth_areOz hG.oe n, (full_iff _ _).1 hf⟩
    · simp at h
  · rintro ⟨h1, h2⟩
    obtain ⟨n, hn, rfl⟩ := areOz_nth hG.oe h1
    refine ⟨n, by rw [List.mem_range'_1]; omega, ?_⟩
    unfold truthF
    rw [if_pos ((full_iff _ _).2 h2)]; simp
theorem eq6_refl (a : Nat → Int) : eq6 a a = true := by simp [eq6]
theorem eq6_at {a b : Nat → Int} (h : eq6 a b = true) {j : Nat} (hj : j < 6) : a j = b j := by
  simp only [eq6, Bool.and_eq_true, decide_eq_true_eq, and_true] at h
  obtain ⟨h0, h1, h2, h3, h4, h5⟩ := h
  match j, hj with
  | 0, _ | 1, _ | 2, _ | 3, _ | 4, _ | 5, _ => assumption
/-- What has been asked: of each truth so far, and of truths alone. -/
theorem asked_inv {S : Slate} (hG : Good S) : ∀ (l : List (List Int)) (vs : List (Nat → Int)) (done : List (List Int)), (∀ L ∈ l, areOz S.es L = true) →
    (∀ a ∈ vs, ∃ L, areOz S.es L = true ∧ AllRight S L ∧ a = owV S.es L) → (∀ L ∈ done, AllRight S L → ∃ a ∈ vs, eq6 a (owV S.es L) = true) →
    (∀ a ∈ (iterL (fun _ _ => true) (askStep S.es S.ss) l vs).1, ∃ L, areOz S.es L = true ∧ AllRight S L ∧ a = owV S.es L) ∧
    (∀ L, L ∈ done ∨ L ∈ l → AllRight S L → ∃ a ∈ (iterL (fun _ _ => true) (askStep S.es S.ss) l vs).1, eq6 a (owV S.es L) = true)
  | [], vs, done, _, h2, h3 => ⟨h2, fun L hL => by
      rcases hL with hL | hL
      · exact h3 L hL
      · simp at hL⟩
  | L :: l, vs, done, h1, h2, h3 => by
    have hL := h1 L (by simp)
    have key : (∀ a ∈ askStep S.es S.ss vs L, ∃ L, areOz S.es L = true ∧ AllRight S L ∧ a = owV S.es L) ∧ (∀ K ∈ L :: done, AllRight S K → ∃ a ∈ askStep S.es S.ss vs L, eq6 a (owV S.es K) = true) := by
      unfold askStep
      cases hr : rightUp (owV S.es L) [] 0 S.ss with
      | false =>
        simp only [Bool.false_and, Bool.false_eq_true, if_false]
        refine ⟨h2, fun K hK hA => ?_⟩
        simp only [List.mem_cons] at hK
        rcases hK with hK | hK
        · subst hK
          rw [(right_all hG K).2 hA] at hr; cases hr
        · exact h3 K hK hA
      | true =>
        simp only [Bool.true_and]
        have hA := (right_all hG L).1 hr
        have add : (∀ a ∈ vs ++ [owV S.es L], ∃ L, areOz S.es L = true ∧ AllRight S L ∧ a = owV S.es L) ∧ (∀ K ∈ L :: done, AllRight S K → ∃ a ∈ vs ++ [owV S.es L], eq6 a (owV S.es K) = true) := by
          refine ⟨fun a ha => ?_, fun K hK hA => ?_⟩
          · simp only [List.mem_append, List.mem_singleton] at ha
            rcases ha with ha | ha
            · exact h2 a ha
            · exact ⟨L, hL, ‹_›, ha⟩
          · simp only [List.mem_cons] at hK
            rcases hK with hK | hK
            · subst hK; exact ⟨_, by simp, eq6_refl _⟩
            · obtain ⟨a, ha, he⟩ := h3 K hK hA
              exact ⟨a, by simp [ha], he⟩
        cases hg : vs.getLast? with
        | none => simpa using add
        | some a =>
          simp only
          by_cases he : eq6 a (owV S.es L) = true
          · rw [if_neg (by rw [he]; simp)]
            refine ⟨h2, fun K hK hA => ?_⟩
            simp only [List.mem_cons] at hK
            rcases hK with hK | hK
            · subst hK; exact ⟨a, List.mem_of_getLast? hg, he⟩
            · exact h3 K hK hA
          · rw [if_pos (by simpa using he)]; exact add
    rw [iterL]
    simp only [if_true]
    obtain ⟨i1, i2⟩ := asked_inv hG l (askStep S.es S.ss vs L) (L :: done) (fun K hK => h1 K (by simp [hK])) key.1 key.2
    refine ⟨i1, fun K hK => i2 K ?_⟩
    simp only [List.mem_cons] at hK ⊢
    rcases hK with hK | hK | hK
    · exact Or.inl (Or.inr hK)
    · exact Or.inl (Or.inl hK)
    · exact Or.inr hK
theorem asked_truth {S : Slate} (hG : Good S) {a : Nat → Int} (ha : a ∈ asked S) : ∃ L ∈ truths S (prodN S.es), a = owV S.es L := by
  obtain ⟨h1, _⟩ := asked_inv hG (ozs S.es) [] [] (fun L hL => (mem_ozs hG.oe).1 hL) (by simp) (by simp)
  obtain ⟨L, g1, g2, g3⟩ := h1 a ha
  exact ⟨L, (mem_truths hG L).2 ⟨g1, g2⟩, g3⟩
theorem truth_asked {S : Slate} (hG : Good S) {L : List Int} (hL : L ∈ truths S (prodN S.es)) : ∃ a ∈ asked S, eq6 a (owV S.es L) = true := by
  obtain ⟨g1, g2⟩ := (mem_truths hG L).1 hL
  obtain ⟨_, h2⟩ := asked_inv hG (ozs S.es) [] [] (fun L hL => (mem_ozs hG.oe).1 hL) (by simp) (by simp)
  exact h2 L (Or.inr ((mem_ozs hG.oe).2 g1)) g2
theorem err_eq (S : Slate) : askedErr S = sureErr S := by
  unfold askedErr sureErr
  by_cases hc : checkSlate S = 0
  · have hG := good_of_check hc
    have : (asked S = []) ↔ (truths S (prodN S.es) = []) := by
      constructor
      · intro h
        cases ht : truths S (prodN S.es) with
        | nil => rfl
        | cons L l =>
          obtain ⟨a, ha, _⟩ := truth_asked hG (L := L) (by rw [ht]; simp)
          rw [h] at ha; simp at ha
      · intro h
        cases ht : asked S with
        | nil => rfl
        | cons a l =>
          obtain ⟨L, hL, _⟩ := asked_truth hG (a := a) (by rw [ht]; simp)
          rw [h] at hL; simp at hL
    by_cases ha : asked S = []
    · simp only [hc, ne_eq, not_true_eq_false, if_false, ha, this.1 ha, if_true]
    · have hb : ¬ truths S (prodN S.es) = [] := fun h => ha (this.2 h)
      simp only [hc, ne_eq, not_true_eq_false, if_false, ha, hb]
  · simp only [ne_eq, hc, not_false_eq_true, if_true]

/-! least and greatest -/
theorem pbUp_spec (val : (Nat → Int) → Int) : ∀ (l : List (Nat → Int)) (lo hi : Int), ((pbUp lo hi val l).1 ≤ lo ∧ hi ≤ (pbUp lo hi val l).2) ∧ (∀ a ∈ l, (pbUp lo hi val l).1 ≤ val a ∧ val a ≤ (pbUp lo hi val l).2) ∧
    ((pbUp lo hi val l).1 = lo ∨ ∃ a ∈ l, (pbUp lo hi val l).1 = val a) ∧ ((pbUp lo hi val l).2 = hi ∨ ∃ a ∈ l, (pbUp lo hi val l).2 = val a)
  | [], lo, hi => by simp [pbUp]
  | a :: l, lo, hi => by
    obtain ⟨⟨h1, h2⟩, h3, h4, h5⟩ := pbUp_spec val l (mn lo (val a)) (mx hi (val a))
    rw [pbUp]
    have hm : mn lo (val a) ≤ lo ∧ mn lo (val a) ≤ val a ∧ (mn lo (val a) = lo ∨ mn lo (val a) = val a) := by unfold mn; omega
    have hx : hi ≤ mx hi (val a) ∧ val a ≤ mx hi (val a) ∧ (mx hi (val a) = hi ∨ mx hi (val a) = val a) := by unfold mx; omega
    refine ⟨⟨by omega, by omega⟩, fun b hb => ?_, ?_, ?_⟩
    · simp only [List.mem_cons] at hb
      rcases hb with hb | hb
      · subst hb; exact ⟨by omega, by omega⟩
      · exact h3 b hb
    · rcases h4 with h | ⟨b, hb, h⟩
      · rcases hm.2.2 with g | g
        · left; omega
        · right; exact ⟨a, by simp, by omega⟩
      · right; exact ⟨b, by simp [hb], h⟩
    · rcases h5 with h | ⟨b, hb, h⟩
      · rcases hx.2.2 with g | g
        · left; omega
        · right; exact ⟨a, by simp, by omega⟩
      · right; exact ⟨b, by simp [hb], h⟩
theorem pBounds_spec (val : (Nat → Int) → Int) (l : List (Nat → Int)) (h0 : l ≠ []) : (∀ a ∈ l, (pBounds val l).1 ≤ val a ∧ val a ≤ (pBounds val l).2) ∧ (∃ a ∈ l, (pBounds val l).1 = val a) ∧ (∃ a ∈ l, (pBounds val l).2 = val a) := by
  cases l with
  | nil => exact absurd rfl h0
  | cons a l =>
    rw [pBounds]
    obtain ⟨⟨h1, h2⟩, h3, h4, h5⟩ := pbUp_spec val l (mn (val a) (val a)) (mx (val a) (val a))
    have hm : mn (val a) (val a) = val a := by unfold mn; omega
    have hx : mx (val a) (val a) = val a := by unfold mx; omega
    refine ⟨fun b hb => ?_, ?_, ?_⟩
    · simp only [List.mem_cons] at hb
      rcases hb with hb | hb
      · subst hb; exact ⟨by omega, by omega⟩
      · exact h3 b hb
    · rcases h4 with h | ⟨b, hb, h⟩
      · exact ⟨a, by simp, by omega⟩
      · exact ⟨b, by simp [hb], h⟩
    · rcases h5 with h | ⟨b, hb, h⟩
      · exact ⟨a, by simp, by omega⟩
      · exact ⟨b, by simp [hb], h⟩
theorem boundsUp_spec (g : List Int → Int) : ∀ (l : List (List Int)) (lo hi : Int), ((boundsUp lo hi g l).1 ≤ lo ∧ hi ≤ (boundsUp lo hi g l).2) ∧ (∀ a ∈ l, (boundsUp lo hi g l).1 ≤ g a ∧ g a ≤ (boundsUp lo hi g l).2) ∧
    ((boundsUp lo hi g l).1 = lo ∨ ∃ a ∈ l, (boundsUp lo hi g l).1 = g a) ∧ ((boundsUp lo hi g l).2 = hi ∨ ∃ a ∈ l, (boundsUp lo hi g l).2 = g a)
  | [], lo, hi => by simp [boundsUp]
  | a :: l, lo, hi => by
    obtain ⟨⟨h1, h2⟩, h3, h4, h5⟩ := boundsUp_spec g l (mn lo (g a)) (mx hi (g a))
    rw [boundsUp]
    have hm : mn lo (g a) ≤ lo ∧ mn lo (g a) ≤ g a ∧ (mn lo (g a) = lo ∨ mn lo (g a) = g a) := by unfold mn; omega
    have hx : hi ≤ mx hi (g a) ∧ g a ≤ mx hi (g a) ∧ (mx hi (g a) = hi ∨ mx hi (g a) = g a) := by unfold mx; omega
    refine ⟨⟨by omega, by omega⟩, fun b hb => ?_, ?_, ?_⟩
    · simp only [List.mem_cons] at hb
      rcases hb with hb | hb
      · subst hb; exact ⟨by omega, by omega⟩
      · exact h3 b hb
    · rcases h4 with h | ⟨b, hb, h⟩
      · rcases hm.2.2 with g | g
        · left; omega
        · right; exact ⟨a, by simp, by omega⟩
      · right; exact ⟨b, by simp [hb], h⟩
    · rcases h5 with h | ⟨b, hb, h⟩
      · rcases hx.2.2 with g | g
        · left; omega
        · right; exact ⟨a, by simp, by omega⟩
      · right; exact ⟨b, by simp [hb], h⟩
/-- Bounds over all truths, asked by the program and by the document. -/
theorem bounds_same {S : Slate} (hG : Good S) (h0 : asked S ≠ []) (val : (Nat → Int) → Int) (g : List Int → Int) (hv : ∀ a L, eq6 a (owV S.es L) = true → val a = g L) (hg : ∀ L ∈ truths S (prodN S.es), -1000000 ≤ g L ∧ g L ≤ 1000000) :
    pBounds val (asked S) = boundsUp 1099511627776 (-1099511627776) g (truths S (prodN S.es)) := by
  obtain ⟨p1, ⟨a1, ha1, e1⟩, ⟨a2, ha2, e2⟩⟩ := pBounds_spec val (asked S) h0
  obtain ⟨_, b1, b2, b3⟩ := boundsUp_spec g (truths S (prodN S.es)) 1099511627776 (-1099511627776)
  obtain ⟨L1, hL1, q1⟩ := asked_truth hG ha1
  obtain ⟨L2, hL2, q2⟩ := asked_truth hG ha2
  have v1 := hv a1 L1 (by rw [q1]; exact eq6_refl _)
  have v2 := hv a2 L2 (by rw [q2]; exact eq6_refl _)
  have g1 := hg L1 hL1
  have g2 := hg L2 hL2
  have c1 := b1 L1 hL1
  have c2 := b1 L2 hL2
  refine Prod.ext ?_ ?_
  · rcases b2 with h | ⟨L, hL, h⟩
    · omega
    · obtain ⟨a, ha, he⟩ := truth_asked hG hL
      have := p1 a ha
      have := hv a L he
      omega
  · rcases b3 with h | ⟨L, hL, h⟩
    · omega
    · obtain ⟨a, ha, he⟩ := truth_asked hG hL
      have := p1 a ha
      have := hv a L he
      omega
end Go.Proofs.Ytlhfeiacigmliaa

/- From the evaluator to the rows: what a row gives, and what it wants. -/
namespace Go.Proofs.Ytlhfeiacigmliaa
open Go Go.ChangeShapes Go.RowKit
set_option maxRecDepth 100000

/-! the start: all cells that can be read are as they are -/
def rho0 (W : World) : Rho := ⟨fun _ => none, fun R off => W.cell? ⟨R, off, none⟩, fun _ => none⟩
theorem sim0 (P : Program) (W : World) : Sim P (rho0 W) St.empty W where
  inj _ _ _ h := by cases h
  mlt _ _ h := by cases h
  obj _ _ _ h := by cases h
  imm _ _ _ h := h
  free _ _ h := by cases h
  plt _ _ h := by cases h
  ver _ _ h := by cases h
  pnm _ _ _ h := by cases h
  room _ _ _ h := by cases h
  apart _ _ _ _ _ _ h := by cases h

/-! readings -/
theorem mapM_each {α β : Type} {f : α → Option β} : ∀ {l : List α} {ys : List β}, l.mapM f = some ys → ∀ a ∈ l, ∃ y, f a = some y
  | [], _, _, a, ha => by simp at ha
  | x :: l, ys, h, a, ha => by
    rw [List.mapM_cons] at h
    cases hx : f x with
    | none => rw [hx] at h; simp at h
    | some y =>
      rw [hx] at h
      cases hl : l.mapM f with
      | none => rw [hl] at h; simp at h
      | some zs =>
        simp only [List.mem_cons] at ha
        rcases ha with rfl | ha
        · exact ⟨y, hx⟩
        · exact mapM_each hl a ha
section
variable {H : Type} {enc : TypeId × Value → H} {P : Program} {w : World}
abbrev trd (enc : TypeId × Value → H) (P : Program) (w : World) (fuel : Nat) (t : TypeId) (cs : List Value) : Option (DataW H × List MemPlace) := DataW.trod enc P w 0 (fun _ => true) true fuel t cs
theorem trd_struct {t : TypeId} {fs : Array Field} (hu : P.underlying t = some (.struct fs)) {fuel : Nat} {cs : List Value} {x : DataW H × List MemPlace} (h : trd enc P w fuel t cs = some x) :
    cs.length = P.cellsOf t ∧ ∃ fuel', ∀ f ∈ fs.toList, ∃ y, trd enc P w fuel' f.type ((cs.drop f.offset).take (P.cellsOf f.type)) = some y := by
  cases fuel with
  | zero => simp [trd, DataW.trod] at h
  | succ fuel =>
    simp only [trd, DataW.trod, hu] at h
    split at h
    · rename_i hl
      refine ⟨hl, fuel, fun f hf => ?_⟩
      rw [Option.map_eq_some_iff] at h
      obtain ⟨ys, h1, _⟩ := h
      exact mapM_each h1 f hf
    · cases h
theorem trd_slice {t e : TypeId} (hu : P.underlying t = some (.slice e)) {fuel : Nat} {cs : List Value} {x : DataW H × List MemPlace} (h : trd enc P w fuel t cs = some x) :
    cs = [.slice none 0 0] ∨ ∃ a len cap, cs = [.slice (some a) len cap] ∧ len ≤ cap ∧ ∃ fuel', ∀ i, i < len → ∃ row y, w.cells? 0 (a.add (i * P.cellsOf e)) (P.cellsOf e) = some row ∧ trd enc P w fuel' e row = some y := by
  cases fuel with
  | zero => simp [trd, DataW.trod] at h
  | succ fuel =>
    unfold trd DataW.trod at h
    rw [hu] at h
    rcases cs with _ | ⟨v, _ | ⟨v2, r⟩⟩
    · cases h
    · cases v with
      | slice o len cap =>
        cases o with
        | none =>
          left
          cases len with
          | zero =>
            cases cap with
            | zero => rfl
            | succ n => cases h
          | succ n => cases h
        | some a =>
          right
          simp only at h
          split at h
          · rename_i hc
            refine ⟨a, len, cap, rfl, hc.2.1, fuel, fun i hi => ?_⟩
            cases he : (List.range len).mapM fun i => (w.cells? 0 (a.add (i * P.cellsOf e)) (P.cellsOf e)).bind (DataW.trod enc P w 0 (fun _ => true) true fuel e) with
            | none => rw [he] at h; cases h
            | some ys =>
              obtain ⟨y, hy⟩ := mapM_each he i (by simpa using hi)
              rw [Option.bind_eq_some_iff] at hy
              obtain ⟨row, h1, h2⟩ := hy
              exact ⟨row, y, h1, h2⟩
          · cases h
      | _ => cases h
    · cases v with
      | slice o len cap =>
        cases o with
        | none =>
          cases len with
          | zero => cases cap <;> cases h
          | succ n => cases h
        | some a => cases h
      | _ => cases h
def Flat (enc : TypeId × Value → H) (P : Program) (w : World) (t : TypeId) (k : Nat) : Prop := ∀ fuel cs x, trd enc P w fuel t cs = some x → cs.length = k ∧ ∀ v ∈ cs, ∃ n : Int, v = .int .i64 n
theorem flat_int {t : TypeId} (hu : P.underlying t = some (.int .i64)) : Flat enc P w t 1 := by
  intro fuel cs x h
  cases fuel with
  | zero => simp [trd, DataW.trod] at h
  | succ fuel =>
    unfold trd DataW.trod at h
    rw [hu] at h
    rcases cs with _ | ⟨v, _ | ⟨v2, r⟩⟩
    · cases h
    · cases v with
      | int k n =>
        simp only at h
        split at h
        · rename_i hc
          obtain ⟨rfl, _⟩ := hc
          exact ⟨rfl, fun v hv => ⟨n, by simpa using hv⟩⟩
        · cases h
      | _ => cases h
    · cases v <;> cases h
/-- A structure of two or three fields that lie one behind the other. -/
theorem flat_two {t t0 t1 : TypeId} {k0 k1 : Nat} {fs : Array Field} (hu : P.underlying t = some (.struct fs)) {f0 f1 : Field} (hf : fs.toList = [f0, f1]) (h0 : f0.type = t0 ∧ f0.offset = 0 ∧ P.cellsOf t0 = k0) (h1 : f1.type = t1 ∧ f1.offset = k0 ∧ P.cellsOf t1 = k1)
    (hc : P.cellsOf t = k0 + k1) (F0 : Flat enc P w t0 k0) (F1 : Flat enc P w t1 k1) : Flat enc P w t (k0 + k1) := by
  intro fuel cs x h
  obtain ⟨hl, fuel', he⟩ := trd_struct hu h
  rw [hc] at hl
  rw [hf] at he
  obtain ⟨rfl, o0, c0⟩ := h0
  obtain ⟨rfl, o1, c1⟩ := h1
  obtain ⟨y0, g0⟩ := he f0 (by simp)
  obtain ⟨y1, g1⟩ := he f1 (by simp)
  rw [o0, c0, List.drop_zero] at g0
  rw [o1, c1, List.take_of_length_le (by simp; omega)] at g1
  obtain ⟨_, a0⟩ := F0 _ _ _ g0
  obtain ⟨_, a1⟩ := F1 _ _ _ g1
  refine ⟨hl, fun v hv => ?_⟩
  rw [← List.take_append_drop k0 cs, List.mem_append] at hv
  rcases hv with hv | hv
  · exact a0 v hv
  · exact a1 v hv
theorem flat_three {t t0 t1 t2 : TypeId} {k0 k1 k2 : Nat} {fs : Array Field} (hu : P.underlying t = some (.struct fs)) {f0 f1 f2 : Field} (hf : fs.toList = [f0, f1, f2]) (h0 : f0.type = t0 ∧ f0.offset = 0 ∧ P.cellsOf t0 = k0) (h1 : f1.type = t1 ∧ f1.offset = k0 ∧ P.cellsOf t1 = k1)
    (h2 : f2.type = t2 ∧ f2.offset = k0 + k1 ∧ P.cellsOf t2 = k2) (hc : P.cellsOf t = k0 + k1 + k2) (F0 : Flat enc P w t0 k0) (F1 : Flat enc P w t1 k1) (F2 : Flat enc P w t2 k2) : Flat enc P w t (k0 + k1 + k2) := by
  intro fuel cs x h
  obtain ⟨hl, fuel', he⟩ := trd_struct hu h
  rw [hc] at hl
  rw [hf] at he
  obtain ⟨rfl, o0, c0⟩ := h0
  obtain ⟨rfl, o1, c1⟩ := h1
  obtain ⟨rfl, o2, c2⟩ := h2
  obtain ⟨y0, g0⟩ := he f0 (by simp)
  obtain ⟨y1, g1⟩ := he f1 (by simp)
  obtain ⟨y2, g2⟩ := he f2 (by simp)
  rw [o0, c0, List.drop_zero] at g0
  rw [o1, c1] at g1
  rw [o2, c2, List.take_of_length_le (by simp; omega)] at g2
  obtain ⟨_, a0⟩ := F0 _ _ _ g0
  obtain ⟨_, a1⟩ := F1 _ _ _ g1
  obtain ⟨_, a2⟩ := F2 _ _ _ g2
  refine ⟨hl, fun v hv => ?_⟩
  rw [← List.take_append_drop k0 cs, List.mem_append] at hv
  rcases hv with hv | hv
  · exact a0 v hv
  · rw [← List.take_append_drop k1 (cs.drop k0), List.mem_append, List.drop_drop] at hv
    rcases hv with hv | hv
    · exact a1 v hv
    · exact a2 v hv
/-- The cells of a slice of such things. -/
theorem slice_vals {t e : TypeId} {k : Nat} (hu : P.underlying t = some (.slice e)) (hk : P.cellsOf e = k) (F : Flat enc P w e k) {fuel : Nat} {v : Value} {x : DataW H × List MemPlace} (h : trd enc P w fuel t [v] = some x)
    (hs : ∀ a len cap, v = .slice (some a) len cap → a.spot = none) : ∃ (len : Nat) (vals : Nat → Int), VRel (rho0 w) (.vsl ((List.range (len * k)).map fun j => i64 (vals j)) len .no) v := by
  rcases trd_slice hu h with h | ⟨a, len, cap, h, hlc, fuel', he⟩
  · simp only [List.cons.injEq, and_true] at h
    subst h
    refine ⟨0, fun _ => 0, ?_⟩
    rw [Nat.zero_mul]
    exact Or.inl ⟨rfl, rfl, fun p hp => (by cases hp), rfl⟩
  · simp only [List.cons.injEq, and_true] at h
    have hsp := hs a len cap h
    subst h
    obtain ⟨R, off, sp⟩ := a
    simp only at hsp
    subst hsp
    have hcell : ∀ j, ∃ n : Int, j < len * k → w.cell? ⟨R, off + j, none⟩ = some (.int .i64 n) := by
      intro j
      by_cases hj : j < len * k
      · have hk0 : 0 < k := by
          rcases Nat.eq_zero_or_pos k with h | h
          · subst h; simp at hj
          · exact h
        obtain ⟨row, y, g1, g2⟩ := he (j / k) (Nat.div_lt_of_lt_mul (by rw [Nat.mul_comm]; exact hj))
        rw [hk] at g1
        obtain ⟨_, hrl, hrc⟩ := World.cells?_some g1
        obtain ⟨_, ha⟩ := F _ _ _ g2
        have hm : j % k < k := Nat.mod_lt _ hk0
        have hrow : row[j % k]? = some (row[j % k]'(by omega)) := List.getElem?_eq_getElem _
        obtain ⟨n, hn⟩ := ha _ (List.getElem_mem (l := row) (n := j % k) (by omega))
        refine ⟨n, fun _ => ?_⟩
        have := hrc (j % k) hm
        rw [hrow, hn] at this
        rw [← this]
        congr 1
        have hdm := Nat.div_add_mod' j k
        generalize j / k * k = u at hdm
        generalize j % k = z at hdm
        simp only [Addr.add]
        split <;> split <;> simp <;> omega
      · exact ⟨0, fun h => absurd h hj⟩
    refine ⟨len, fun j => (hcell j).choose, Or.inr ⟨R, off, cap, rfl, hlc, IRel.of_get fun i a ha => ?_, trivial⟩⟩
    have hi : i < len * k := by
      rcases Nat.lt_or_ge i (len * k) with h | h
      · exact h
      · rw [List.getElem?_eq_none (by simpa using h)] at ha; cases ha
    rw [List.getElem?_map, List.getElem?_range hi] at ha
    simp only [Option.map_some, Option.some.injEq] at ha
    subst ha
    exact ⟨_, (hcell i).choose_spec hi, rfl, rfl⟩
theorem cells_range {α : Type} {f : α → List AVal} {k : Nat} {mk : Nat → α} {vals : Nat → Int} (hf : ∀ i, f (mk i) = (List.range k).map fun j => i64 (vals (i * k + j))) (n : Nat) : cellsOf f ((List.range n).map mk) = (List.range (n * k)).map fun j => i64 (vals j) := by
  induction n with
  | zero => simp [cells_nil]
  | succ n ih =>
    rw [List.range_succ, List.map_append, cells_append, ih, Nat.add_mul, Nat.one_mul, List.range_add, List.map_append]
    congr 1
    simp only [List.map_cons, List.map_nil, cells_cons, cells_nil, List.append_nil, hf, List.map_map]
    rfl
end

/-! the program's types -/
section
variable {H : Type} {enc : TypeId × Value → H} {w : World}
theorem c3 : Try.prog.cellsOf 3 = 1 := by kernel_rfl
theorem c46 : Try.prog.cellsOf 46 = 2 := by kernel_rfl
theorem c85 : Try.prog.cellsOf 85 = 4 := by kernel_rfl
theorem c88 : Try.prog.cellsOf 88 = 3 := by kernel_rfl
theorem c22 : Try.prog.cellsOf 22 = 1 := by kernel_rfl
theorem c23 : Try.prog.cellsOf 23 = 1 := by kernel_rfl
theorem c25 : Try.prog.cellsOf 25 = 3 := by kernel_rfl
theorem F3 : Flat enc Try.prog w 3 1 := flat_int Try.underlying3
theorem F46 : Flat enc Try.prog w 46 2 := flat_two Try.underlying46 rfl ⟨rfl, rfl, c3⟩ ⟨rfl, rfl, c3⟩ c46 F3 F3
theorem F85 : Flat enc Try.prog w 85 4 := flat_three Try.underlying85 rfl ⟨rfl, rfl, c3⟩ ⟨rfl, rfl, c3⟩ ⟨rfl, rfl, c46⟩ c85 F3 F3 F46
theorem F88 : Flat enc Try.prog w 88 3 := flat_two Try.underlying88 rfl ⟨rfl, rfl, c3⟩ ⟨rfl, rfl, c46⟩ c88 F3 F46
theorem spot_of_ok {P : Program} {base : Nat} {t e : TypeId} {v : Value} (hu : P.underlying t = some (.slice e)) (h : Cell.okWide P w .any base t v) : ∀ a len cap, v = .slice (some a) len cap → a.spot = none := by
  rintro a len cap rfl
  unfold Cell.okWide at h
  rw [hu] at h
  unfold Cell.ok at h
  rw [hu] at h
  exact h.2.2.2.1
theorem rel_ents {t : TypeId} (hu : Try.prog.underlying t = some (.slice 85)) {fuel : Nat} {v : Value} {x : DataW H × List MemPlace} (h : trd enc Try.prog w fuel t [v] = some x) (hs : ∀ a len cap, v = .slice (some a) len cap → a.spot = none) : ∃ l : List Ent, VRel (rho0 w) (sl cE l) v := by
  obtain ⟨len, vals, hv⟩ := slice_vals hu c85 F85 h hs
  refine ⟨(List.range len).map fun i => ⟨vals (i * 4 + 0), vals (i * 4 + 1), ⟨vals (i * 4 + 2), vals (i * 4 + 3)⟩⟩, ?_⟩
  have hc := cells_range (f := cE) (k := 4) (mk := fun i => ⟨vals (i * 4 + 0), vals (i * 4 + 1), ⟨vals (i * 4 + 2), vals (i * 4 + 3)⟩⟩) (vals := vals) (fun i => rfl) len
  rw [← hc] at hv
  simpa [sl, lenOf] using hv
theorem rel_says {t : TypeId} (hu : Try.prog.underlying t = some (.slice 88)) {fuel : Nat} {v : Value} {x : DataW H × List MemPlace} (h : trd enc Try.prog w fuel t [v] = some x) (hs : ∀ a len cap, v = .slice (some a) len cap → a.spot = none) : ∃ l : List Say, VRel (rho0 w) (sl cS l) v := by
  obtain ⟨len, vals, hv⟩ := slice_vals hu c88 F88 h hs
  refine ⟨(List.range len).map fun i => ⟨vals (i * 3 + 0), ⟨vals (i * 3 + 1), vals (i * 3 + 2)⟩⟩, ?_⟩
  have hc := cells_range (f := cS) (k := 3) (mk := fun i => ⟨vals (i * 3 + 0), ⟨vals (i * 3 + 1), vals (i * 3 + 2)⟩⟩) (vals := vals) (fun i => rfl) len
  rw [← hc] at hv
  simpa [sl, lenOf] using hv
theorem rel_ints {fuel : Nat} {v : Value} {x : DataW H × List MemPlace} (h : trd enc Try.prog w fuel 37 [v] = some x) (hs : ∀ a len cap, v = .slice (some a) len cap → a.spot = none) : ∃ l : List Int, VRel (rho0 w) (sl cI l) v := by
  obtain ⟨len, vals, hv⟩ := slice_vals Try.underlying37 c3 F3 h hs
  refine ⟨(List.range len).map fun i => vals (i * 1 + 0), ?_⟩
  have hc := cells_range (f := cI) (k := 1) (mk := fun i => vals (i * 1 + 0)) (vals := vals) (fun i => rfl) len
  rw [← hc] at hv
  simpa [sl, lenOf] using hv
theorem rel_slate {base : Nat} {v : Value} {d : DataW H} {p : List MemPlace} (hok : Value.okWide Try.prog w .any base 25 v) (h : DataW.Trod enc Try.prog w 0 (fun _ => true) true 25 v d p) : ∃ S : Slate, VRel (rho0 w) (vSl S) v := by
  obtain ⟨fuel, h⟩ := h
  unfold Value.okWide at hok
  rw [Try.underlying25] at hok
  obtain ⟨cs, rfl, hsz, ts, hts, _, hrow⟩ := hok
  rw [c25] at hsz
  have hts' : Try.prog.cellTypes Try.prog.depth 25 = some [3, 22, 23] := by kernel_rfl
  rw [hts'] at hts
  cases hts
  obtain ⟨l⟩ := cs
  simp only [List.size_toArray] at hsz
  match l, hsz with
  | [x0, x1, x2], _ =>
    obtain ⟨_, fuel', he⟩ := trd_struct Try.underlying25 h
    simp only [Value.cells, List.mem_cons, List.not_mem_nil, or_false, forall_eq_or_imp, forall_eq, c3, c22, c23] at he
    obtain ⟨⟨y0, h0⟩, ⟨y1, h1⟩, ⟨y2, h2⟩⟩ := he
    obtain ⟨_, a0⟩ := F3 _ _ _ h0
    obtain ⟨n, hn⟩ := a0 x0 (by simp)
    obtain ⟨u1, e1, o1⟩ := hrow 1 x1 rfl
    obtain ⟨u2, e2, o2⟩ := hrow 2 x2 rfl
    cases e1; cases e2
    obtain ⟨es, r1⟩ := rel_ents Try.underlying22 h1 (spot_of_ok Try.underlying22 o1)
    obtain ⟨ss, r2⟩ := rel_says Try.underlying23 h2 (spot_of_ok Try.underlying23 o2)
    refine ⟨⟨n, es, ss⟩, _, rfl, x0, [x1, x2], rfl, by subst hn; rfl, hn, x1, [x2], rfl, ?_, r1, x2, [], rfl, ?_, r2, rfl⟩
    · rcases r1 with ⟨_, _, _, h⟩ | ⟨_, _, _, h, _⟩ <;> rw [h] <;> rfl
    · rcases r2 with ⟨_, _, _, h⟩ | ⟨_, _, _, h, _⟩ <;> rw [h] <;> rfl

/-! the end: true is returned, and nothing that was is different -/
theorem stays_all {P : Program} (hl : laidOutB P = true) {W W' : World} {sp : Nat → Bool} : ∀ {ts : List TypeId} {vs : List Value} {ds : List (DataW H)} {ps : List MemPlace}, (∀ t ∈ ts, P.readableRec t = true ∧ t < P.types.size) →
    DataW.TrodAll enc P W 0 (fun _ => true) true ts vs ds ps → (∀ p ∈ ps, W.sameAt W' p) → (∀ p ∈ ps, sp p.block = true) → DataW.TrodAll enc P W' 0 sp true ts vs ds ps
  | [], vs, ds, ps, _, h, _, _ => by
    cases vs <;> cases ds <;> simp_all [DataW.TrodAll]
  | t :: ts, vs, ds, ps, hr, h, hs, hp => by
    obtain ⟨v, vs', d, ds', p, q, rfl, rfl, rfl, hd, hrest⟩ := trodAll_cons h
    obtain ⟨r1, r2⟩ := hr t (by simp)
    exact ⟨p, q, Go.WideElems.Trod_stays hl r1 r2 hd (fun x hx => hs x (by simp [hx])) (fun x hx => hp x (by simp [hx])), stays_all hl (fun t ht => hr t (by simp [ht])) hrest (fun x hx => hs x (by simp [hx])) (fun x hx => hp x (by simp [hx])), rfl⟩
theorem laid : laidOutB Try.prog = true := by kernel_rfl
theorem shut_true {f : Func} {s : ChangeSpec} {W W' : World} {args : Array Value} {ds : List (DataW H)} {before : List MemPlace} {ρ' : Rho} (hW : DataW.Whole enc Try.prog f.params.toList s.vars false W args.toList ds [] before) (hv : s.vars = [])
    (hr : f.resultTypes.toList = [4]) (hrd : ∀ t ∈ f.params.toList, Try.prog.readableRec t = true ∧ t < Try.prog.types.size) (h1 : (s.fn H (ds ++ [])).results = [.lit (.bool true)]) (h2 : (s.fn H (ds ++ [])).args = ds) (h3 : (s.fn H (ds ++ [])).vars = [])
    (hF : Fwd (rho0 W) W ρ' W') : s.post enc Try.prog f false true false false W args (.bool true) W' := by
  have hb : ∀ R, R < W.heap.size → W'.heap[R]? = W.heap[R]? := fun R hR => hF.kept R hR (by
    rintro (⟨b, hb⟩ | ⟨p, r, hp, _⟩)
    · cases hb
    · cases hp)
  have hlt := hW.lt
  have hW0 := hW
  obtain ⟨p, q, hA, hV, rfl, _, _⟩ := hW0
  rw [hv] at hV
  obtain ⟨_, rfl⟩ := trodVars_none hV
  rw [List.append_nil] at hlt
  have hargs : DataW.TrodAll enc Try.prog W' 0 (fun b => decide (b < W.heap.size)) true f.params.toList args.toList ds p := by
    refine stays_all laid hrd hA (fun x hx => ?_) (fun x hx => by simpa using hlt x hx)
    cases x with
    | cell b o => exact World.cell?_of_block (w := W) (hb b (hlt _ hx))
    | map b => exact hb b (hlt _ hx)
  have hrs : f.resultTypes.size = 1 := by rw [← Array.length_toList, hr]; rfl
  refine ⟨ds, [], _, [], p, [], hW, ?_, ?_, ?_, ⟨hF.os, hF.output, fun i hi => ?_⟩, fun h => by cases h⟩
  · rw [h1, hr, hrs]
    refine trodAll_mk1 ⟨1, ?_⟩
    simp [DataW.trod, Try.underlying4, Value.cells]
  · rw [h2]; exact hargs
  · rw [h3, hv]; rfl
  · rw [hb i hi]; split <;> simp_all
end
theorem thin_len {S : Slate} (h : thin S = true) : S.es.length ≤ 8 ∧ S.ss.length ≤ 7 := by
  unfold thin at h
  simp only [Bool.and_eq_true, Bool.not_eq_true', Bool.or_eq_false_iff, decide_eq_false_iff_not] at h
  obtain ⟨⟨h1, h2⟩, _⟩ := h
  unfold lenOf at h1 h2
  omega
end Go.Proofs.Ytlhfeiacigmliaa

/- The wash-house's soap: a slate with some of its sayings, and whether it has a truth. -/
namespace Go.Proofs.Ytlhfeiacigmliaa
open Go
set_option maxRecDepth 100000

/-! some of the sayings -/
def pickS (b : Nat) : Nat → List Say → List Say
  | _, [] => []
  | i, x :: l => if bmod (bshr b i) 2 = 1 then x :: pickS b (i + 1) l else pickS b (i + 1) l
def someS (S : Slate) (b : Nat) : Slate := ⟨S.women, S.es, pickS b 0 S.ss⟩
theorem l58 (w : Int) (es : List Ent) (ss : List Say) (hS : ss.length < 60) (b : Nat) (N : Nat) (O : List AObj) (o : AObj) (p : Nat) (q : Nat → Nat) : ∀ (k i : Nat) (acc : List Say), i + k = ss.length → acc.length ≤ i →
   lim tbl (.loop a58_l0 33 ⟨[1, 2, 4, 5, 6], [4, 5], []⟩ [i64 (Int.ofNat b), .vref [i64 w, sl cE es, sl cS ss], .ptr N 0, .ptr (na N 1) 0, i64 (Int.ofNat i)]) ⟨na (na N 1) 1, .cells [i64 w, sl cE es, ownSl cS p acc] :: o :: O, roomP p (lenOf acc), roomC p q (lenOf acc)⟩
     = some (.exit 0, [.ptr N 0, .ptr (na N 1) 0], ⟨na (na N 1) 1, .cells [i64 w, sl cE es, ownSl cS p (app acc (pickS b i (ss.drop i)))] :: o :: O, roomP p (lenOf (app acc (pickS b i (ss.drop i)))), roomC p q (lenOf (app acc (pickS b i (ss.drop i))))⟩) := by
  intro k
  induction k with
  | zero =>
    intro i acc hi ha
    rw [List.drop_eq_nil_of_le (by omega), show pickS b i [] = [] by rw [pickS], app_nil, lim_loop]
    (try simp only [go_sem, ↓reduceIte, Nat.reduceAdd, Nat.reduceEqDiff, Nat.reduceLT, Nat.reduceLeDiff, Nat.reduceBEq, Int.reduceEq, Int.reduceLT, Int.reduceLE]); (repeat ((first | (rw [lt_yes]; rotate_left; (first | omega | (simp [lenOf, app]; omega) | (simp only [lenOf]; omega))) | (rw [lt_no]; rotate_left; (first | omega | (simp [lenOf, app]; omega) | (simp only [lenOf]; omega))) | (rw [idxA_at]; rotate_left; (first | omega | (simp [lenOf, app]; omega) | (simp only [lenOf]; omega))) | (rw [wr_up]; rotate_left; (first | omega | (simp [lenOf, app]; omega) | (simp only [lenOf]; omega))) | ((first | rw [drop_cI] | rw [drop_cE] | rw [drop_cS] | rw [drop_cP] | rw [drop_cR]); rotate_left; assumption)); try simp only [go_sem, ↓reduceIte, Nat.reduceAdd, Nat.reduceEqDiff, Nat.reduceLT, Nat.reduceLeDiff, Nat.reduceBEq, Int.reduceEq, Int.reduceLT, Int.reduceLE]))
  | succ k ih =>
    intro i acc hi ha
    have hl : i < ss.length := by omega
    obtain ⟨e, he, hd⟩ := getElem_drop hl
    obtain ⟨v, ⟨lo, hi'⟩⟩ := e
    rw [hd, pickS]
    have hs : shrI (Int.ofNat b) (Int.ofNat i) = some (i64 (Int.ofNat (bshr b i))) := shr_at (by omega)
    have hr : remI (Int.ofNat (bshr b i)) 2 = some (i64 (Int.ofNat (bmod (bshr b i) 2))) := rem2_at _
    by_cases ht : bmod (bshr b i) 2 = 1
    · rw [if_pos ht, app_assoc]
      have hx := append_own (f := cS) (sz := 3) (fun _ => rfl) 24 p q (na (na N 1) 1) (.cells [i64 w, sl cE es, ownSl cS p acc] :: o :: O) acc ⟨v, ⟨lo, hi'⟩⟩ [i64 v, i64 lo, i64 hi'] rfl .full (by omega) (by omega)
      have h' := ih (i + 1) (app acc [⟨v, ⟨lo, hi'⟩⟩]) (by omega) (by simp [app]; omega)
      rw [ht] at hr
      rw [lim_loop]
      generalize hR : some (_, _, _) = R at h' ⊢
      (try simp only [go_sem, ↓reduceIte, Nat.reduceAdd, Nat.reduceEqDiff, Nat.reduceLT, Nat.reduceLeDiff, Nat.reduceBEq, Int.reduceEq, Int.reduceLT, Int.reduceLE]); (repeat ((first | (rw [wr_u]; rotate_left; (omega)) | rw [hs] | rw [hr] | rw [hx] | (rw [lt_yes]; rotate_left; (first | omega | (simp [lenOf, app]; omega) | (simp only [lenOf]; omega))) | (rw [lt_no]; rotate_left; (first | omega | (simp [lenOf, app]; omega) | (simp only [lenOf]; omega))) | (rw [idxA_at]; rotate_left; (first | omega | (simp [lenOf, app]; omega) | (simp only [lenOf]; omega))) | (rw [wr_up]; rotate_left; (first | omega | (simp [lenOf, app]; omega) | (simp only [lenOf]; omega))) | ((first | rw [drop_cI] | rw [drop_cE] | rw [drop_cS] | rw [drop_cP] | rw [drop_cR]); rotate_left; assumption)); try simp only [go_sem, ↓reduceIte, Nat.reduceAdd, Nat.reduceEqDiff, Nat.reduceLT, Nat.reduceLeDiff, Nat.reduceBEq, Int.reduceEq, Int.reduceLT, Int.reduceLE]))
      exact h'
    · rw [if_neg ht]
      have ht0 : bmod (bshr b i) 2 = 0 := by unfold bmod at *; omega
      have h' := ih (i + 1) acc (by omega) (by omega)
      rw [ht0] at hr
      rw [lim_loop]
      generalize hR : some (_, _, _) = R at h' ⊢
      (try simp only [go_sem, ↓reduceIte, Nat.reduceAdd, Nat.reduceEqDiff, Nat.reduceLT, Nat.reduceLeDiff, Nat.reduceBEq, Int.reduceEq, Int.reduceLT, Int.reduceLE]); (repeat ((first | (rw [wr_u]; rotate_left; (omega)) | rw [hs] | rw [hr] | (rw [lt_yes]; rotate_left; (first | omega | (simp [lenOf, app]; omega) | (simp only [lenOf]; omega))) | (rw [lt_no]; rotate_left; (first | omega | (simp [lenOf, app]; omega) | (simp only [lenOf]; omega))) | (rw [idxA_at]; rotate_left; (first | omega | (simp [lenOf, app]; omega) | (simp only [lenOf]; omega))) | (rw [wr_up]; rotate_left; (first | omega | (simp [lenOf, app]; omega) | (simp only [lenOf]; omega))) | ((first | rw [drop_cI] | rw [drop_cE] | rw [drop_cS] | rw [drop_cP] | rw [drop_cR]); rotate_left; assumption)); try simp only [go_sem, ↓reduceIte, Nat.reduceAdd, Nat.reduceEqDiff, Nat.reduceLT, Nat.reduceLeDiff, Nat.reduceBEq, Int.reduceEq, Int.reduceLT, Int.reduceLE]))
      exact h'
theorem k58 (S : Slate) (hS : S.ss.length < 60) (b : Nat) (s : St) : lim tbl (.call 58 [vSl S, i64 (Int.ofNat b)]) s = some (.ret, [vSl (someS S b)], s) := by
  obtain ⟨w, es, ss⟩ := S
  rw [lim_call tbl_58]; obtain ⟨N, O, p, q⟩ := s
  have h0 := l58 w es ss hS b N O (.cells [i64 0, .sl0, .sl0]) p q ss.length 0 [] (by omega) (by simp)
  rw [List.drop_zero, nil_app, ownSl_nil, show lenOf ([] : List Say) = 0 from rfl, roomP_0, roomC_0, ofNat_0] at h0
  change _ = some (_, _, (⟨na (na N 1) 1, .cells [i64 w, sl cE es, ownSl cS p (someS ⟨w, es, ss⟩ b).ss] :: _ :: O, roomP p (lenOf (someS ⟨w, es, ss⟩ b).ss), roomC p q (lenOf (someS ⟨w, es, ss⟩ b).ss)⟩ : St)) at h0
  have h2 : someS ⟨w, es, ss⟩ b = ⟨w, es, (someS ⟨w, es, ss⟩ b).ss⟩ := rfl
  rw [h2]
  generalize (someS ⟨w, es, ss⟩ b).ss = A at h0 ⊢
  (try simp only [go_sem, ↓reduceIte, Nat.reduceAdd, Nat.reduceEqDiff, Nat.reduceLT, Nat.reduceLeDiff, Nat.reduceBEq, Int.reduceEq, Int.reduceLT, Int.reduceLE]); (repeat ((first | rw [h0] | (rw [lt_yes]; rotate_left; (first | omega | (simp [lenOf, app]; omega) | (simp only [lenOf]; omega))) | (rw [lt_no]; rotate_left; (first | omega | (simp [lenOf, app]; omega) | (simp only [lenOf]; omega))) | (rw [idxA_at]; rotate_left; (first | omega | (simp [lenOf, app]; omega) | (simp only [lenOf]; omega))) | (rw [wr_up]; rotate_left; (first | omega | (simp [lenOf, app]; omega) | (simp only [lenOf]; omega))) | ((first | rw [drop_cI] | rw [drop_cE] | rw [drop_cS] | rw [drop_cP] | rw [drop_cR]); rotate_left; assumption)); try simp only [go_sem, ↓reduceIte, Nat.reduceAdd, Nat.reduceEqDiff, Nat.reduceLT, Nat.reduceLeDiff, Nat.reduceBEq, Int.reduceEq, Int.reduceLT, Int.reduceLE]))
theorem pickS_at (b : Nat) : ∀ (l : List Say) (i j : Nat) (x : Say), l[j]? = some x → b.testBit (i + j) = true → x ∈ pickS b i l
  | [], _, _, _, h, _ => by simp at h
  | y :: l, i, 0, x, h, hb => by
    simp only [List.getElem?_cons_zero, Option.some.injEq] at h
    subst h
    rw [pickS, if_pos]
    · simp
    · simpa [Nat.testBit_eq_decide_div_mod_eq, bmod, bshr, Nat.shiftRight_eq_div_pow] using hb
  | y :: l, i, j + 1, x, h, hb => by
    have := pickS_at b l (i + 1) j x (by simpa using h) (by rw [← hb]; congr 1; omega)
    rw [pickS]
    split
    · exact List.mem_cons_of_mem _ this
    · exact this
theorem mem_pickS (b : Nat) : ∀ (l : List Say) (i : Nat) (x : Say), x ∈ pickS b i l → ∃ j, l[j]? = some x ∧ b.testBit (i + j) = true
  | [], _, _, h => by simp [pickS] at h
  | y :: l, i, x, h => by
    rw [pickS] at h
    have step : x ∈ pickS b (i + 1) l → ∃ j, (y :: l)[j]? = some x ∧ b.testBit (i + j) = true := by
      intro h
      obtain ⟨j, h1, h2⟩ := mem_pickS b l (i + 1) x h
      exact ⟨j + 1, by simpa using h1, by rw [← h2]; congr 1; omega⟩
    split at h
    · rename_i hb
      rw [List.mem_cons] at h
      rcases h with h | h
      · subst h
        exact ⟨0, rfl, by simpa [Nat.testBit_eq_decide_div_mod_eq, bmod, bshr, Nat.shiftRight_eq_div_pow] using hb⟩
      · exact step h
    · exact step h
theorem pickS_len (b : Nat) : ∀ (l : List Say) (i : Nat), (pickS b i l).length ≤ l.length
  | [], _ => by simp [pickS]
  | y :: l, i => by
    rw [pickS]
    have := pickS_len b l (i + 1)
    split <;> simp only [List.length_cons] <;> omega
theorem check_sub {S : Slate} (hc : checkSlate S = 0) {l : List Say} (hl : l.length ≤ 5) (hm : ∀ x ∈ l, x ∈ S.ss) : checkSlate ⟨S.women, S.es, l⟩ = 0 := by
  unfold checkSlate at hc ⊢
  split at hc
  · cases hc
  split at hc
  · cases hc
  rename_i h1 h2
  rw [if_neg, if_neg]
  · exact hc
  · simp only [Bool.or_eq_true, decide_eq_true_eq, not_or, Bool.not_eq_true', Bool.not_eq_false] at h2 ⊢
    refine ⟨h2.1, ?_⟩
    have h6 := h2.2
    simp only [allB, List.all_eq_true] at h6 ⊢
    exact fun x hx => h6 x (hm x hx)
  · simp only [Bool.or_eq_true, decide_eq_true_eq, not_or, Int.not_lt] at h1 ⊢
    refine ⟨h1.1, ?_⟩
    omega
theorem check_some {S : Slate} (hc : checkSlate S = 0) (b : Nat) : checkSlate (someS S b) = 0 := by
  have hG := good_of_check hc
  refine check_sub hc (by have := pickS_len b S.ss 0; have := hG.s5; omega) fun x hx => ?_
  obtain ⟨j, hj, _⟩ := mem_pickS b S.ss 0 x hx
  exact List.mem_of_getElem? hj
theorem asked_ok_iff {S : Slate} (hc : checkSlate S = 0) : askedErr S = 0 ↔ ∃ L, areOz S.es L = true ∧ AllRight S L := by
  rw [err_eq]
  have hG := good_of_check hc
  unfold sureErr
  simp only [hc, ne_eq, not_true_eq_false, if_false]
  constructor
  · intro h
    cases ht : truths S (prodN S.es) with
    | nil => rw [ht] at h; simp at h
    | cons L l => exact ⟨L, (mem_truths hG L).1 (by rw [ht]; simp)⟩
  · rintro ⟨L, hL⟩
    have := (mem_truths hG L).2 hL
    rw [if_neg]
    intro h
    rw [h] at this; simp at this
theorem asked_or {S : Slate} (hc : checkSlate S = 0) : askedErr S = 0 ∨ askedErr S = 11 := by
  rw [err_eq]
  unfold sureErr
  simp only [hc, ne_eq, not_true_eq_false, if_false]
  by_cases h : truths S (prodN S.es) = [] <;> simp [h]
theorem allRight_some {S : Slate} (b : Nat) (L : List Int) : AllRight (someS S b) L ↔ ∀ (i : Nat) (x : Say), S.ss[i]? = some x → b.testBit i = true → rightOk S.es L x = true := by
  constructor
  · intro h i x hx hb
    have hm : x ∈ (someS S b).ss := pickS_at b S.ss 0 i x hx (by rw [Nat.zero_add]; exact hb)
    obtain ⟨j, hj⟩ := List.getElem?_of_mem hm
    exact h j x hj
  · intro h i x hx
    obtain ⟨j, h1, h2⟩ := mem_pickS b S.ss 0 x (List.mem_of_getElem? hx)
    rw [Nat.zero_add] at h2
    exact h j x h1 h2
theorem askedErr_some {S : Slate} (hc : checkSlate S = 0) (b : Nat) (hb : ∀ i, b.testBit i = true → i < S.ss.length) : askedErr (someS S b) = if can (allN S) b then 0 else 11 := by
  have hG := good_of_check hc
  have hcs := check_some hc b
  have key : askedErr (someS S b) = 0 ↔ can (allN S) b = true := by
    rw [asked_ok_iff hcs, can_iff hG]
    constructor
    · rintro ⟨L, h1, h2⟩
      refine ⟨L, h1, fun i hi => ?_⟩
      have hl := hb i hi
      rw [rightN_test, List.getElem?_eq_getElem hl]
      exact (allRight_some b L).1 h2 i _ (List.getElem?_eq_getElem hl) hi
    · rintro ⟨L, h1, h2⟩
      refine ⟨L, h1, (allRight_some b L).2 fun i x hx hi => ?_⟩
      have := h2 i hi
      rwa [rightN_test, hx] at this
  cases h : can (allN S) b with
  | true => simp only [if_true]; exact key.2 h
  | false =>
    simp only [Bool.false_eq_true, if_false]
    rcases asked_or hcs with g | g
    · rw [key.1 g] at h; cases h
    · exact g
theorem full_lt (S : Slate) : ∀ i, (fullN (lenOf S.ss)).testBit i = true → i < S.ss.length := by
  intro i h
  rw [fullN_test, decide_eq_true_eq] at h
  exact h
theorem asked_full {S : Slate} (hc : checkSlate S = 0) : askedErr S = if can (allN S) (fullN (lenOf S.ss)) then 0 else 11 := by
  have hG := good_of_check hc
  have key : askedErr S = 0 ↔ can (allN S) (fullN (lenOf S.ss)) = true := by
    rw [asked_ok_iff hc, can_iff hG]
    constructor
    · rintro ⟨L, h1, h2⟩
      refine ⟨L, h1, fun i hi => ?_⟩
      have hl := full_lt S i hi
      rw [rightN_test, List.getElem?_eq_getElem hl]
      exact h2 i _ (List.getElem?_eq_getElem hl)
    · rintro ⟨L, h1, h2⟩
      refine ⟨L, h1, fun i x hx => ?_⟩
      have hl : i < S.ss.length := (List.getElem?_eq_some_iff.1 hx).1
      have := h2 i (by rw [fullN_test, decide_eq_true_eq]; exact hl)
      rwa [rightN_test, hx] at this
  cases h : can (allN S) (fullN (lenOf S.ss)) with
  | true => simp only [if_true]; exact key.2 h
  | false =>
    simp only [Bool.false_eq_true, if_false]
    rcases asked_or hc with g | g
    · rw [key.1 g] at h; cases h
    · exact g
theorem areOz_lo : ∀ {es : List Ent}, OkE es → areOz es (es.map (·.oz.lo)) = true
  | [], _ => rfl
  | e :: es, h => by
    have he := h e (by simp)
    simp only [List.map_cons, areOz, Bool.and_eq_true, within_iff]
    exact ⟨⟨by omega, he.2.1⟩, areOz_lo fun x hx => h x (by simp [hx])⟩
theorem can_zero {S : Slate} (hG : Good S) : can (allN S) (fullN 0) = true := by
  rw [can_iff hG]
  refine ⟨_, areOz_lo hG.oe, fun i hi => ?_⟩
  rw [fullN_test] at hi
  simp at hi
theorem full_mask (n : Nat) : fullN (n + 1) = maskN n := by unfold fullN maskN pw; rw [Nat.pow_succ]; omega
theorem firstP_none {S : Slate} (hG : Good S) : ∀ (k i : Nat), i + k = S.ss.length → can (allN S) (fullN i) = true → firstPUp S k i = none → can (allN S) (fullN (lenOf S.ss)) = true
  | 0, i, h, h0, _ => by rw [show lenOf S.ss = i from by unfold lenOf; omega]; exact h0
  | k + 1, i, h, h0, h1 => by
    rw [firstPUp, first_can hG (by omega)] at h1
    cases hc : can (allN S) (maskN i) with
    | true =>
      rw [hc] at h1
      exact firstP_none hG k (i + 1) (by omega) (by rw [full_mask]; exact hc) h1
    | false => rw [hc] at h1; cases h1
theorem firstP_some {S : Slate} (hG : Good S) : ∀ (k i j : Nat), i + k = S.ss.length → can (allN S) (fullN i) = true → firstPUp S k i = some j → j < S.ss.length ∧ can (allN S) (fullN j) = true ∧ can (allN S) (maskN j) = false
  | 0, i, j, h, h0, h1 => by cases h1
  | k + 1, i, j, h, h0, h1 => by
    rw [firstPUp, first_can hG (by omega)] at h1
    cases hc : can (allN S) (maskN i) with
    | true =>
      rw [hc] at h1
      exact firstP_some hG k (i + 1) j (by omega) (by rw [full_mask]; exact hc) h1
    | false =>
      rw [hc] at h1
      simp only [Bool.false_eq_true, if_false, Option.some.injEq] at h1
      subst h1
      exact ⟨by omega, h0, hc⟩
theorem ready_inv {S : Slate} (h : readyS S = true) : checkSlate S = 0 ∧ thin S = true := by
  unfold readyS at h
  rw [Bool.and_eq_true, decide_eq_true_eq, fault_eq] at h
  exact ⟨h.2, h.1⟩
end Go.Proofs.Ytlhfeiacigmliaa

/- From the evaluator to the rows: arguments beside a slate. -/
namespace Go.Proofs.Ytlhfeiacigmliaa
open Go Go.ChangeShapes Go.RowKit
set_option maxRecDepth 100000
/-! the operation that compares truth values -/
def eqbK (neg : Bool) (s : St) : AVal → AVal → Option (AVal × St)
  | .bool a, .bool b => some (.bool ((a == b) != neg), s)
  | _, _ => none
@[go_sem] theorem op_eqb (H : Han) (fr : List AVal) (s : St) (x y : AOpd) (neg : Bool) : evalOp H (.eqb neg x y) fr s = eqbK neg s (x.eval fr) (y.eval fr) := by
  unfold evalOp eqbK
  rfl
@[go_sem] theorem eqb_true_true_true (s : St) : eqbK true s (.bool true) (.bool true) = some (.bool false, s) := (rfl)
@[go_sem] theorem eqb_true_true_false (s : St) : eqbK true s (.bool true) (.bool false) = some (.bool true, s) := (rfl)
@[go_sem] theorem eqb_true_false_true (s : St) : eqbK true s (.bool false) (.bool true) = some (.bool true, s) := (rfl)
@[go_sem] theorem eqb_true_false_false (s : St) : eqbK true s (.bool false) (.bool false) = some (.bool false, s) := (rfl)
@[go_sem] theorem eqb_false_true_true (s : St) : eqbK false s (.bool true) (.bool true) = some (.bool true, s) := (rfl)
@[go_sem] theorem eqb_false_true_false (s : St) : eqbK false s (.bool true) (.bool false) = some (.bool false, s) := (rfl)
@[go_sem] theorem eqb_false_false_true (s : St) : eqbK false s (.bool false) (.bool true) = some (.bool false, s) := (rfl)
@[go_sem] theorem eqb_false_false_false (s : St) : eqbK false s (.bool false) (.bool false) = some (.bool true, s) := (rfl)
section
variable {H : Type} {enc : TypeId × Value → H} {w : World} {base : Nat}
theorem rel_int {P : Program} {t : TypeId} {kd : IntKind} (hu : P.underlying t = some (.int kd)) {v : Value} {d : DataW H} {p : List MemPlace} (hok : Value.okWide P w .any base t v) (h : DataW.Trod enc P w 0 (fun _ => true) true t v d p) : ∃ n : Int, v = .int kd n ∧ (Lit.int kd n).wf = true := by
  obtain ⟨fuel, h⟩ := h
  unfold Value.okWide at hok
  rw [hu] at hok
  cases fuel with
  | zero => simp [DataW.trod] at h
  | succ fuel =>
    unfold DataW.trod at h
    rw [hu] at h
    cases v with
    | int k n =>
      simp only [Value.cells] at h
      split at h
      · rename_i hc
        obtain ⟨rfl, hw⟩ := hc
        exact ⟨n, rfl, hw⟩
      · cases h
    | agg cs =>
      exfalso
      unfold Cell.okWide at hok
      rw [hu] at hok
      unfold Cell.ok at hok
      rw [hu] at hok
      exact hok
    | _ => simp only [Value.cells] at h; cases h
theorem rel_i64 {v : Value} {d : DataW H} {p : List MemPlace} (hok : Value.okWide Try.prog w .any base 3 v) (h : DataW.Trod enc Try.prog w 0 (fun _ => true) true 3 v d p) : ∃ n : Int, VRel (rho0 w) (i64 n) v := by
  obtain ⟨n, rfl, hw⟩ := rel_int Try.underlying3 hok h
  exact ⟨n, rfl⟩
theorem rel_u8 {v : Value} {d : DataW H} {p : List MemPlace} (hok : Value.okWide Try.prog w .any base 5 v) (h : DataW.Trod enc Try.prog w 0 (fun _ => true) true 5 v d p) : ∃ m : Nat, m < 256 ∧ VRel (rho0 w) (.int .u8 (Int.ofNat m)) v := by
  obtain ⟨n, rfl, hw⟩ := rel_int Try.underlying5 hok h
  simp only [Lit.wf, Bool.and_eq_true, decide_eq_true_eq, show IntKind.min .u8 = 0 from rfl, show IntKind.max .u8 = 255 from rfl] at hw
  obtain ⟨m, rfl⟩ : ∃ m : Nat, n = Int.ofNat m := ⟨n.toNat, by simp; omega⟩
  exact ⟨m, by simp at hw; omega, rfl⟩
theorem rel_u16 {v : Value} {d : DataW H} {p : List MemPlace} (hok : Value.okWide Try.prog w .any base 69 v) (h : DataW.Trod enc Try.prog w 0 (fun _ => true) true 69 v d p) : ∃ m : Nat, m < 65536 ∧ VRel (rho0 w) (.int .u16 (Int.ofNat m)) v := by
  obtain ⟨n, rfl, hw⟩ := rel_int Try.underlying69 hok h
  simp only [Lit.wf, Bool.and_eq_true, decide_eq_true_eq, show IntKind.min .u16 = 0 from rfl, show IntKind.max .u16 = 65535 from rfl] at hw
  obtain ⟨m, rfl⟩ : ∃ m : Nat, n = Int.ofNat m := ⟨n.toNat, by simp; omega⟩
  exact ⟨m, by simp at hw; omega, rfl⟩
theorem c140 : Try.prog.cellsOf 140 = 3 := by kernel_rfl
theorem F140 : Flat enc Try.prog w 140 3 := flat_three Try.underlying140 rfl ⟨rfl, rfl, c3⟩ ⟨rfl, rfl, c3⟩ ⟨rfl, rfl, c3⟩ c140 F3 F3 F3
theorem one_cell {P : Program} {t e : TypeId} (hu : P.underlying t = some (.slice e)) {v : Value} (hok : Value.okWide P w .any base t v) : v.cells.toList = [v] ∧ ∀ a len cap, v = .slice (some a) len cap → a.spot = none := by
  unfold Value.okWide at hok
  rw [hu] at hok
  refine ⟨?_, spot_of_ok hu hok⟩
  cases v with
  | agg cs =>
    exfalso
    unfold Cell.okWide at hok
    rw [hu] at hok
    unfold Cell.ok at hok
    rw [hu] at hok
    exact hok
  | _ => rfl
theorem rel_list {v : Value} {d : DataW H} {p : List MemPlace} (hok : Value.okWide Try.prog w .any base 37 v) (h : DataW.Trod enc Try.prog w 0 (fun _ => true) true 37 v d p) : ∃ l : List Int, VRel (rho0 w) (sl cI l) v := by
  obtain ⟨fuel, h⟩ := h
  obtain ⟨h1, h2⟩ := one_cell Try.underlying37 hok
  rw [h1] at h
  exact rel_ints h h2
theorem rel_pays {v : Value} {d : DataW H} {p : List MemPlace} (hok : Value.okWide Try.prog w .any base 82 v) (h : DataW.Trod enc Try.prog w 0 (fun _ => true) true 82 v d p) : ∃ l : List Pay, VRel (rho0 w) (sl cP l) v := by
  obtain ⟨fuel, h⟩ := h
  obtain ⟨h1, h2⟩ := one_cell Try.underlying82 hok
  rw [h1] at h
  obtain ⟨len, vals, hv⟩ := slice_vals Try.underlying82 c140 F140 h h2
  refine ⟨(List.range len).map fun i => ⟨vals (i * 3 + 0), vals (i * 3 + 1), vals (i * 3 + 2)⟩, ?_⟩
  have hc := cells_range (f := cP) (k := 3) (mk := fun i => ⟨vals (i * 3 + 0), vals (i * 3 + 1), vals (i * 3 + 2)⟩) (vals := vals) (fun i => rfl) len
  rw [← hc] at hv
  simpa [sl, lenOf] using hv
end
end Go.Proofs.Ytlhfeiacigmliaa
