/- Lemmas for running the small code on values that are partly unknown. -/
import Derived.Test.YtlhfeiacigmliaaPartF
set_option linter.all false
namespace Go.Proofs.Ytlhfeiacigmliaa
open Go

attribute [go_sem] Bool.false_eq_true eq_self
theorem wr_in {n : Int} (h1 : -9223372036854775808 ≤ n) (h2 : n ≤ 9223372036854775807) : wr .i64 n = n := by
  unfold wr; rw [if_pos ⟨h1, h2⟩]


theorem fold_add (a b : Int) : Int.add a b = a + b := (rfl)
theorem fold_sub (a b : Int) : Int.sub a b = a - b := (rfl)
theorem le_y {a b : Int} {inst : Decidable (a ≤ b)} (h : a ≤ b) : @decide (a ≤ b) inst = true := decide_eq_true h
theorem le_n {a b : Int} {inst : Decidable (a ≤ b)} (h : ¬ a ≤ b) : @decide (a ≤ b) inst = false := decide_eq_false h
theorem lt_y {a b : Int} {inst : Decidable (a < b)} (h : a < b) : @decide (a < b) inst = true := decide_eq_true h
theorem lt_n {a b : Int} {inst : Decidable (a < b)} (h : ¬ a < b) : @decide (a < b) inst = false := decide_eq_false h
theorem eq_y {a b : Int} {inst : Decidable (a = b)} (h : a = b) : @decide (a = b) inst = true := decide_eq_true h
theorem eq_n {a b : Int} {inst : Decidable (a = b)} (h : ¬ a = b) : @decide (a = b) inst = false := decide_eq_false h
theorem idxA_at {pre : Nat} {n : Nat} (h : pre < n) : idxA (.int .i64 (Int.ofNat pre)) n = some pre := by
  unfold idxA; simp only; rw [if_pos (by constructor <;> simp; omega)]; simp
theorem lt_yes {a b : Nat} {inst : Decidable (Int.ofNat a < Int.ofNat b)} (h : a < b) : @decide (Int.ofNat a < Int.ofNat b) inst = true := by
  apply decide_eq_true; show (a : Int) < b; omega
theorem lt_no {a b : Nat} {inst : Decidable (Int.ofNat a < Int.ofNat b)} (h : b ≤ a) : @decide (Int.ofNat a < Int.ofNat b) inst = false := by
  apply decide_eq_false; show ¬ (a : Int) < b; omega
theorem wr_up {n : Nat} (h : n < 1000000000000) : wr .i64 (Int.add (Int.ofNat n) 1) = Int.ofNat (n + 1) := by
  rw [fold_add, wr_in] <;> simp <;> omega

@[go_sem] theorem ofNat_0 : Int.ofNat 0 = 0 := (rfl)
@[go_sem] theorem ofNat_1 : Int.ofNat 1 = 1 := (rfl)
@[go_sem] theorem ofNat_2 : Int.ofNat 2 = 2 := (rfl)
@[go_sem] theorem ofNat_4 : Int.ofNat 4 = 4 := (rfl)
@[go_sem] theorem wr_1 : wr .i64 1 = 1 := (rfl)
@[go_sem] theorem wr_2 : wr .i64 2 = 2 := (rfl)
@[go_sem] theorem idx_0_2 : idxA (.int .i64 0) 2 = some 0 := (rfl)
@[go_sem] theorem idx_1_2 : idxA (.int .i64 1) 2 = some 1 := (rfl)
@[go_sem] theorem idx_2_4 : idxA (.int .i64 2) 4 = some 2 := (rfl)
@[go_sem] theorem idx_3_4 : idxA (.int .i64 3) 4 = some 3 := (rfl)
section
variable {α : Type} (a b c' d e f g h : α) (l : List α)
@[go_sem] theorem drop0 : List.drop 0 l = l := (rfl)
@[go_sem] theorem drop1 : List.drop 1 (a :: l) = l := (rfl)
@[go_sem] theorem drop2 : List.drop 2 (a :: b :: l) = l := (rfl)
@[go_sem] theorem drop4 : List.drop 4 (a :: b :: c' :: d :: l) = l := (rfl)
@[go_sem] theorem drop6 : List.drop 6 (a :: b :: c' :: d :: e :: f :: l) = l := (rfl)
end

section
variable (s : St) (a b c' d e f g h : AVal) (l : List AVal)
@[go_sem] theorem look_2 : lookN s (.vref (a :: b :: l)) 2 = some [a, b] := by simp [lookN]
@[go_sem] theorem look_3 : lookN s (.vref (a :: b :: c' :: l)) 3 = some [a, b, c'] := by simp [lookN]
@[go_sem] theorem look_4 : lookN s (.vref (a :: b :: c' :: d :: l)) 4 = some [a, b, c', d] := by simp [lookN]
def lookP (o : Option AObj) (off n : Nat) : Option (List AVal) := match o with
  | some (.cells cs) => if off + n ≤ cs.length then some ((cs.drop off).take n) else none
  | _ => none
@[go_sem] theorem look_ptr (b off n : Nat) : lookN s (.ptr b off) n = lookP (s.get b) off n := by
  show (match s.get b with
    | some (AObj.cells cs) => if off + n ≤ cs.length then some (List.take n (List.drop off cs)) else none
    | _ => none) = lookP (s.get b) off n
  unfold lookP; rfl
end
/-- The smaller and the greater of two numbers. -/
def mn (x y : Int) : Int := min x y
def mx (x y : Int) : Int := max x y
@[go_sem] theorem maxmin_mn (k k' : IntKind) (x y : Int) : maxmin2 false (.int k x) (.int k' y) = some (.int k (mn x y)) := by
  simp only [maxmin2, mn]; congr 2; simp only [Bool.false_eq_true, if_false]; split <;> omega
@[go_sem] theorem maxmin_mx (k k' : IntKind) (x y : Int) : maxmin2 true (.int k x) (.int k' y) = some (.int k (mx x y)) := by
  simp only [maxmin2, mx]; congr 2; simp only [if_true]; split <;> omega

/-- The cells of a list of elements, and its length. -/
def cellsOf {α : Type} (f : α → List AVal) (l : List α) : List AVal := l.flatMap f
def lenOf {α : Type} (l : List α) : Nat := l.length
/-- A list as functions take it. -/
abbrev sl {α : Type} (f : α → List AVal) (l : List α) : AVal := .vsl (cellsOf f l) (lenOf l) .no
def cI (n : Int) : List AVal := [i64 n]

theorem cells_nil {α : Type} (f : α → List AVal) : cellsOf f [] = [] := (rfl)
theorem cells_cons {α : Type} (f : α → List AVal) (a : α) (l : List α) : cellsOf f (a :: l) = f a ++ cellsOf f l := by simp [cellsOf]
theorem cells_append {α : Type} (f : α → List AVal) (a l : List α) : cellsOf f (a ++ l) = cellsOf f a ++ cellsOf f l := by simp [cellsOf]
theorem cells_length {α : Type} {f : α → List AVal} {sz : Nat} (hf : ∀ a, (f a).length = sz) (l : List α) : (cellsOf f l).length = l.length * sz := by
  induction l with
  | nil => simp [cells_nil]
  | cons a l ih => rw [cells_cons, List.length_append, ih, hf, List.length_cons, Nat.add_mul]; omega
theorem drop_cells {α : Type} {f : α → List AVal} {sz : Nat} (hf : ∀ a, (f a).length = sz) : ∀ {l : List α} {i : Nat} {a : α} (_ : l[i]? = some a), List.drop (Nat.mul i sz) (cellsOf f l) = f a ++ cellsOf f (l.drop (i + 1))
  | [], i, a, h => by simp at h
  | b :: l, 0, a, h => by
    simp only [List.getElem?_cons_zero, Option.some.injEq] at h; subst h
    show List.drop (0 * sz) _ = _
    simp [cells_cons]
  | b :: l, i + 1, a, h => by
    have ih := drop_cells hf (l := l) (i := i) (a := a) (by simpa using h)
    show List.drop ((i + 1) * sz) _ = _
    have : (i + 1) * sz = (f b).length + Nat.mul i sz := by rw [hf, Nat.add_mul]; show i * sz + 1 * sz = sz + i * sz; omega
    rw [cells_cons, this, ← List.drop_drop, List.drop_left, ih]; simp

theorem norms_nil : norms [] = [] := (rfl)
theorem norms_cons (v : AVal) (l : List AVal) : norms (v :: l) = v.norm :: norms l := (rfl)
theorem norms_append : ∀ a b : List AVal, norms (a ++ b) = norms a ++ norms b
  | [], b => rfl
  | v :: a, b => by simp [norms, norms_append a b]
theorem weaks_append : ∀ {a b a' b' : List AVal}, weaks a = some a' → weaks b = some b' → weaks (a ++ b) = some (a' ++ b')
  | [], b, a', b', ha, hb => by simp only [weaks, Option.some.injEq] at ha; subst ha; exact hb
  | v :: a, b, a', b', ha, hb => by
    simp only [weaks] at ha
    split at ha
    · rename_i v' a1 h1 h2
      cases ha
      simp only [List.cons_append, weaks, h1, weaks_append h2 hb]
    · cases ha
theorem norms_cells {α : Type} {f : α → List AVal} (hf : ∀ a, norms (f a) = f a) (l : List α) : norms (cellsOf f l) = cellsOf f l := by
  induction l with
  | nil => rfl
  | cons a l ih => rw [cells_cons, norms_append, hf, ih]
theorem weaks_cells {α : Type} {f : α → List AVal} (hf : ∀ a, weaks (f a) = some (f a)) (l : List α) : weaks (cellsOf f l) = some (cellsOf f l) := by
  induction l with
  | nil => rfl
  | cons a l ih => rw [cells_cons]; exact weaks_append (hf a) ih
attribute [go_sem] norms_nil norms_cons
@[go_sem] theorem norms_cI (l : List Int) : norms (cellsOf cI l) = cellsOf cI l := norms_cells (fun _ => rfl) l
@[go_sem] theorem weaks_cI (l : List Int) : weaks (cellsOf cI l) = some (cellsOf cI l) := weaks_cells (fun _ => rfl) l
theorem drop_cI {l : List Int} {i : Nat} {a : Int} (h : l[i]? = some a) : List.drop (Nat.mul i 1) (cellsOf cI l) = i64 a :: cellsOf cI (l.drop (i + 1)) := drop_cells (f := cI) (fun _ => rfl) h

section
variable (b : Bool) (k : IntKind) (n m : Nat) (z : Int) (x : ByteArray) (l l' : List AVal) (pm : Perm) (o : Option Nat) (f : Fn) (H : Han) (args : List AVal) (s : St)
@[go_sem] theorem norm_int : AVal.norm (.int k z) = .int k z := (rfl)
@[go_sem] theorem norm_ptr : AVal.norm (.ptr n m) = .ptr n m := (rfl)
@[go_sem] theorem norm_vref : AVal.norm (.vref l) = .vref (norms l) := (rfl)
@[go_sem] theorem norm_vsl : AVal.norm (.vsl l n pm) = .vsl (norms l) n .no := (rfl)
@[go_sem] theorem norm_hsl (q : Nat) : AVal.norm (.hsl n m q o) = .hsl n m q o := (rfl)
@[go_sem] theorem norm_fn : AVal.norm (.fn f l l') = .fn f (norms l) (norms l') := (rfl)
@[go_sem] theorem norm_agg : AVal.norm (.agg l) = .agg (norms l) := (rfl)
end

section
variable (N : Nat) (O : List AObj) (p : Nat) (q : Nat → Nat) (o1 o2 o3 o4 o5 o6 o : AObj)
@[go_sem] theorem get_1_0 : St.get ⟨(na N 1), o1 :: O, p, q⟩ N = some o1 := by
  show (if N + 0 < N + 1 then (o1 :: O)[N + 1 - 1 - (N + 0)]? else none) = _
  rw [if_pos (by omega), show N + 1 - 1 - (N + 0) = 0 by omega]; rfl
@[go_sem] theorem set_1_0 : St.set ⟨(na N 1), o1 :: O, p, q⟩ N o = ⟨(na N 1), o :: O, p, q⟩ := by
  show (St.mk (N + 1) ((o1 :: O).set (N + 1 - 1 - (N + 0)) o) p q) = _
  rw [show N + 1 - 1 - (N + 0) = 0 by omega]; rfl
@[go_sem] theorem get_2_0 : St.get ⟨(na (na N 1) 1), o1 :: o2 :: O, p, q⟩ N = some o2 := by
  show (if N + 0 < N + 2 then (o1 :: o2 :: O)[N + 2 - 1 - (N + 0)]? else none) = _
  rw [if_pos (by omega), show N + 2 - 1 - (N + 0) = 1 by omega]; rfl
@[go_sem] theorem set_2_0 : St.set ⟨(na (na N 1) 1), o1 :: o2 :: O, p, q⟩ N o = ⟨(na (na N 1) 1), o1 :: o :: O, p, q⟩ := by
  show (St.mk (N + 2) ((o1 :: o2 :: O).set (N + 2 - 1 - (N + 0)) o) p q) = _
  rw [show N + 2 - 1 - (N + 0) = 1 by omega]; rfl
end

theorem Old.rfl (s : St) : Old s s := ⟨Nat.le_refl _, by simp, fun _ _ => _root_.rfl⟩
@[go_sem] theorem old_self (s : St) : old s s = true := by simp [old, Old.rfl]

theorem old_of {N : Nat} {O : List AObj} {p : Nat} {q : Nat → Nat} {M : Nat} {l : List AObj} {p' : Nat} (hM : M = N + l.length) : old ⟨N, O, p, q⟩ ⟨M, l ++ O, p', q⟩ = true := by
  simp only [old, decide_eq_true_eq]
  refine ⟨by simp only; omega, ?_, fun _ _ => _root_.rfl⟩
  simp only
  rw [show M - N = l.length by omega, List.drop_left]
section
variable (N : Nat) (O : List AObj) (p p' : Nat) (q : Nat → Nat) (o1 o2 o3 o4 o5 o6 : AObj)
@[go_sem] theorem old_1 : old ⟨N, O, p, q⟩ ⟨(na N 1), o1 :: O, p', q⟩ = true := old_of (l := [o1]) rfl
@[go_sem] theorem old_2 : old ⟨N, O, p, q⟩ ⟨(na (na N 1) 1), o1 :: o2 :: O, p', q⟩ = true := old_of (l := [o1, o2]) rfl
end

def ownSl {α : Type} (f : α → List AVal) (p : Nat) (l : List α) : AVal := if l.length = 0 then .sl0 else .vsl (cellsOf f l) l.length (.own p)
/-- The rooms of a state, with one more (if the slice is not empty). -/
def roomP (p k : Nat) : Nat := if k = 0 then p else p + 1
def roomC (p : Nat) (q : Nat → Nat) (k : Nat) : Nat → Nat := if k = 0 then q else fun x => if x = p then k else q x
theorem ownSl_nil {α : Type} (f : α → List AVal) (p : Nat) : ownSl f p [] = .sl0 := (rfl)
theorem roomP_0 (p : Nat) : roomP p 0 = p := (rfl)
theorem roomC_0 (p : Nat) (q : Nat → Nat) : roomC p q 0 = q := (rfl)
/-- A list with one more. -/
def app {α : Type} (a b : List α) : List α := a ++ b
theorem append_own {α : Type} {f : α → List AVal} {sz : Nat} (hf : ∀ a, (f a).length = sz) (bytes : Nat) (p : Nat) (q : Nat → Nat) (N : Nat) (O : List AObj) (l : List α) (a : α) (cs : List AVal) (hcs : cs = f a) (perm : Perm) (h : (l.length + 1) * bytes ≤ 140737488355328) (h' : l.length + 1 ≤ 140737488355328) :
    appendA sz bytes (ownSl f p l) (.vsl cs 1 perm) ⟨N, O, roomP p (lenOf l), roomC p q (lenOf l)⟩ = some (ownSl f p (app l [a]), ⟨N, O, roomP p (lenOf (app l [a])), roomC p q (lenOf (app l [a]))⟩) := by
  subst hcs
  have he : elemsA ⟨N, O, roomP p (lenOf l), roomC p q (lenOf l)⟩ sz (.vsl (f a) 1 perm) = some (1, f a) := by simp [elemsA, hf]
  unfold appendA
  rw [he]
  simp only [Nat.one_ne_zero, if_false, lenOf, app]
  cases l with
  | nil =>
    simp only [ownSl, roomP, roomC, List.length_nil, if_true, List.nil_append, List.length_singleton, Nat.zero_add, Nat.one_ne_zero, if_false]
    simp only [List.length_nil, Nat.zero_add] at h h'
    rw [if_pos ⟨h, h'⟩]
    simp [St.fresh, cellsOf]
  | cons b l =>
    have hlen : (cellsOf f (b :: l)).length = (b :: l).length * sz := cells_length hf _
    simp only [ownSl, roomP, roomC, show (b :: l).length ≠ 0 by simp, if_false, List.length_append, List.length_singleton, show (b :: l).length + 1 ≠ 0 by simp]
    rw [if_pos ⟨hlen, h, h'⟩]
    simp only [if_true]
    rw [if_pos ⟨trivial, by simp⟩]
    simp only [cells_append, Option.some.injEq, Prod.mk.injEq]
    refine ⟨by simp [cellsOf], ?_⟩
    simp only [St.grow, St.mk.injEq, true_and]
    funext x
    by_cases hx : x = p <;> simp [hx]
/-- A copy of a slice. -/
def copySl {α : Type} (f : α → List AVal) (p : Nat) (l : List α) : AVal := if l.length = 0 then .vsl [] 0 .full else .vsl (cellsOf f l) l.length (.own p)
theorem weak_ownSl {α : Type} {f : α → List AVal} (hf : ∀ a, weaks (f a) = some (f a)) (p : Nat) (l : List α) : AVal.weak (ownSl f p l) = some (sl f l) := by
  unfold ownSl sl lenOf; split
  · rename_i h; rw [List.length_eq_zero_iff] at h; subst h; rfl
  · simp [AVal.weak, weaks_cells hf]
theorem frz_ownSl {α : Type} {f : α → List AVal} (hf : ∀ a, weaks (f a) = some (f a)) (n : Nat) (s : St) (sz p : Nat) (l : List α) : frz n s sz (ownSl f p l) = some (sl f l) := by
  have h := weak_ownSl hf p l
  unfold ownSl at h ⊢; split
  · rename_i h0; rw [if_pos h0] at h; simpa [frz, frz1] using h
  · rename_i h0; rw [if_neg h0] at h; simpa [frz, frz1] using h
theorem frz1_ownSl {α : Type} {f : α → List AVal} (hf : ∀ a, weaks (f a) = some (f a)) (n : Nat) (s : St) (sz p : Nat) (l : List α) : frz1 n s sz (ownSl f p l) = some (sl f l) := by
  have h := weak_ownSl hf p l
  unfold ownSl at h ⊢; split
  · rename_i h0; rw [if_pos h0] at h; simpa [frz1] using h
  · rename_i h0; rw [if_neg h0] at h; simpa [frz1] using h
theorem weak_copySl {α : Type} {f : α → List AVal} (hf : ∀ a, weaks (f a) = some (f a)) (p : Nat) (l : List α) : AVal.weak (copySl f p l) = some (sl f l) := by
  unfold copySl sl lenOf; split
  · rename_i h; rw [List.length_eq_zero_iff] at h; subst h; rfl
  · simp [AVal.weak, weaks_cells hf]
@[go_sem] theorem frz_own_cI (n : Nat) (s : St) (sz p : Nat) (l : List Int) : frz n s sz (ownSl cI p l) = some (sl cI l) := frz_ownSl (fun _ => rfl) ..
@[go_sem] theorem frz1_own_cI (n : Nat) (s : St) (sz p : Nat) (l : List Int) : frz1 n s sz (ownSl cI p l) = some (sl cI l) := frz1_ownSl (fun _ => rfl) ..
theorem old_room {N : Nat} {O : List AObj} {p : Nat} {q q' : Nat → Nat} {M : Nat} {l : List AObj} {p' : Nat} (hM : M = N + l.length) (hq : ∀ x, x < p → q' x = q x) : old ⟨N, O, p, q⟩ ⟨M, l ++ O, p', q'⟩ = true := by
  simp only [old, decide_eq_true_eq]
  refine ⟨by simp only; omega, ?_, hq⟩
  simp only
  rw [show M - N = l.length by omega, List.drop_left]
theorem roomC_old (p : Nat) (q : Nat → Nat) (k : Nat) (x : Nat) (h : x < p) : roomC p q k x = q x := by
  unfold roomC; split
  · rfl
  · simp [Nat.ne_of_lt h]
theorem roomC_old2 (p : Nat) (q : Nat → Nat) (k k' : Nat) (x : Nat) (h : x < p) : roomC (roomP p k) (roomC p q k) k' x = q x := by
  rw [roomC_old _ _ _ _ (by unfold roomP; split <;> omega), roomC_old _ _ _ _ h]
section
variable (N : Nat) (O : List AObj) (p p' : Nat) (q : Nat → Nat) (k k' : Nat) (o1 o2 o3 o4 o5 o6 : AObj)
@[go_sem] theorem oldr_0 : old ⟨N, O, p, q⟩ ⟨N, O, p', roomC p q k⟩ = true := old_room (l := []) rfl (roomC_old p q k)
@[go_sem] theorem oldr_1 : old ⟨N, O, p, q⟩ ⟨(na N 1), o1 :: O, p', roomC p q k⟩ = true := old_room (l := [o1]) rfl (roomC_old p q k)
@[go_sem] theorem oldrr_2 : old ⟨N, O, p, q⟩ ⟨(na (na N 1) 1), o1 :: o2 :: O, p', roomC (roomP p k) (roomC p q k) k'⟩ = true := old_room (l := [o1, o2]) rfl (roomC_old2 p q k k')
end
/-- Numbers of bits. -/
def pw (i : Nat) : Nat := 2 ^ i
def bor (a b : Nat) : Nat := a ||| b
def band (a b : Nat) : Nat := a &&& b
def bsub (a b : Nat) : Nat := a &&& (a ^^^ b)
def bshr (a b : Nat) : Nat := a >>> b
def bmod (a b : Nat) : Nat := a % b
theorem wr_nat {n : Nat} (h : n < 9223372036854775808) : wr .i64 (Int.ofNat n) = Int.ofNat n := wr_in (by simp) (by simp; omega)
theorem wr_u {n : Nat} (h : n < 9223372036854775808) : wr .u64 (Int.ofNat n) = Int.ofNat n := by
  unfold wr; rw [if_pos ⟨by simp [kLo], by simp [kHi]; omega⟩]
theorem pow_lt62 {i : Nat} (h : i < 62) : 2 ^ i ≤ 2305843009213693952 := Nat.pow_le_pow_right (n := 2) (i := i) (j := 61) (by omega) (by omega)
theorem shl_at {c i : Nat} (hc : c ≤ 2) (h : i < 62) : shlI (Int.ofNat c) (Int.ofNat i) = some (i64 (Int.ofNat (c * pw i))) := by
  have hp := pow_lt62 h
  have hm : min i 64 = i := by omega
  have hcc : c * 2 ^ i ≤ 2 * 2305843009213693952 := Nat.mul_le_mul hc hp
  unfold shlI pw
  rw [if_neg (by simp)]
  simp only [Int.ofNat_eq_natCast, Int.toNat_natCast, hm]
  have : ((c : Int) * 2 ^ i) = ((c * 2 ^ i : Nat) : Int) := by push_cast; rfl
  rw [this]
  exact congrArg (fun x => some (AVal.int .i64 x)) (wr_nat (by omega))
theorem shl1_at {i : Nat} (h : i < 62) : shlI 1 (Int.ofNat i) = some (i64 (Int.ofNat (pw i))) := by
  have := shl_at (c := 1) (by omega) h; rwa [Nat.one_mul] at this
theorem shr_at {a i : Nat} (h : i < 64) : shrI (Int.ofNat a) (Int.ofNat i) = some (i64 (Int.ofNat (bshr a i))) := by
  unfold shrI bshr
  rw [if_neg (by simp)]
  have hm : min i 64 = i := by omega
  have hp : ((2 : Int) ^ i) = ((2 ^ i : Nat) : Int) := by push_cast; rfl
  simp only [Int.ofNat_eq_natCast, Int.toNat_natCast, hm, Nat.shiftRight_eq_div_pow]
  rw [hp, Int.fdiv_eq_ediv_of_nonneg _ (Int.natCast_nonneg _)]
  rfl
theorem rem2_at (a : Nat) : remI (Int.ofNat a) 2 = some (i64 (Int.ofNat (bmod a 2))) := by
  unfold remI bmod
  rw [if_neg (by omega)]
  rfl
theorem rem_at {a b : Nat} (h : b ≠ 0) : remI (Int.ofNat a) (Int.ofNat b) = some (i64 (Int.ofNat (bmod a b))) := by
  unfold remI bmod
  rw [if_neg (by simp; omega)]
  rfl
theorem quo_at {a b : Nat} (h : b ≠ 0) (ha : a < 9223372036854775808) : quoI (Int.ofNat a) (Int.ofNat b) = some (i64 (Int.ofNat (a / b))) := by
  unfold quoI
  rw [if_neg (by simp; omega)]
  have : (Int.ofNat a).tdiv (Int.ofNat b) = Int.ofNat (a / b) := (rfl)
  rw [this, wr_nat (by have := Nat.div_le_self a b; omega)]
theorem bv_nat (n : Nat) : BitVec.ofInt 64 (Int.ofNat n) = BitVec.ofNat 64 n := BitVec.ofInt_natCast 64 n
theorem wrap_small {n : Nat} (h : n < 9223372036854775808) : IntKind.wrap .i64 (n : Int) = Int.ofNat n := by
  rw [← wr_eq]; exact wr_nat h
theorem bits_and {a b : Nat} (ha : a < 9223372036854775808) (hb : b < 9223372036854775808) : bitsA .and .i64 (Int.ofNat a) (Int.ofNat b) = some (i64 (Int.ofNat (band a b))) := by
  have hlt : a &&& b < 9223372036854775808 := Nat.lt_of_le_of_lt Nat.and_le_left (by omega)
  have h : bitsA .and .i64 (Int.ofNat a) (Int.ofNat b) = some (.int .i64 (IntKind.wrap .i64 ((BitVec.ofInt 64 (Int.ofNat a) &&& BitVec.ofInt 64 (Int.ofNat b)).toNat : Int))) := (rfl)
  rw [h, bv_nat, bv_nat, BitVec.toNat_and, BitVec.toNat_ofNat, BitVec.toNat_ofNat, Nat.mod_eq_of_lt (by omega), Nat.mod_eq_of_lt (by omega), wrap_small hlt]
  rfl
theorem bits_or {a b : Nat} (ha : a < 9223372036854775808) (hb : b < 9223372036854775808) : bitsA .or .i64 (Int.ofNat a) (Int.ofNat b) = some (i64 (Int.ofNat (bor a b))) := by
  have hlt : a ||| b < 9223372036854775808 := Nat.or_lt_two_pow (n := 63) (by omega) (by omega)
  have h : bitsA .or .i64 (Int.ofNat a) (Int.ofNat b) = some (.int .i64 (IntKind.wrap .i64 ((BitVec.ofInt 64 (Int.ofNat a) ||| BitVec.ofInt 64 (Int.ofNat b)).toNat : Int))) := (rfl)
  rw [h, bv_nat, bv_nat, BitVec.toNat_or, BitVec.toNat_ofNat, BitVec.toNat_ofNat, Nat.mod_eq_of_lt (by omega), Nat.mod_eq_of_lt (by omega), wrap_small hlt]
  rfl
theorem bits_sub {a b : Nat} (ha : a < 9223372036854775808) (hb : b < 9223372036854775808) : bitsA .andNot .i64 (Int.ofNat a) (Int.ofNat b) = some (i64 (Int.ofNat (bsub a b))) := by
  have hlt : a &&& (a ^^^ b) < 9223372036854775808 := Nat.lt_of_le_of_lt Nat.and_le_left (by omega)
  have h : bitsA .andNot .i64 (Int.ofNat a) (Int.ofNat b) = some (.int .i64 (IntKind.wrap .i64 ((BitVec.ofInt 64 (Int.ofNat a) &&& ~~~ BitVec.ofInt 64 (Int.ofNat b)).toNat : Int))) := (rfl)
  have hb' : (BitVec.ofNat 64 a &&& ~~~ BitVec.ofNat 64 b) = BitVec.ofNat 64 a &&& (BitVec.ofNat 64 a ^^^ BitVec.ofNat 64 b) := by
    ext i hi
    simp only [BitVec.getElem_and, BitVec.getElem_not, BitVec.getElem_xor]
    cases (BitVec.ofNat 64 a)[i] <;> cases (BitVec.ofNat 64 b)[i] <;> rfl
  rw [h, bv_nat, bv_nat, hb', BitVec.toNat_and, BitVec.toNat_xor, BitVec.toNat_ofNat, BitVec.toNat_ofNat, Nat.mod_eq_of_lt (by omega), Nat.mod_eq_of_lt (by omega), wrap_small hlt]
  rfl
theorem pw_lt {i : Nat} (h : i < 62) : pw i < 9223372036854775808 := by have := pow_lt62 h; unfold pw; omega

section
variable {α : Type} (f : α → List AVal) (p : Nat) (l : List α) (b : Bool) (k : IntKind) (n m : Nat) (z : Int) (cs cs' : List AVal) (v : AVal) (pm : Perm) (o : Option Nat) (g : Fn)
@[go_sem] theorem tup_own : AVal.isTup (ownSl f p l) = false := by unfold ownSl; split <;> rfl
@[go_sem] theorem tup_bool : AVal.isTup (.bool b) = false := (rfl)
@[go_sem] theorem tup_int : AVal.isTup (.int k z) = false := (rfl)
@[go_sem] theorem tup_ptr : AVal.isTup (.ptr n m) = false := (rfl)
@[go_sem] theorem tup_nilp : AVal.isTup .nilp = false := (rfl)
@[go_sem] theorem tup_vref : AVal.isTup (.vref cs) = false := (rfl)
@[go_sem] theorem tup_vsl : AVal.isTup (.vsl cs n pm) = false := (rfl)
@[go_sem] theorem tup_hsl (q : Nat) : AVal.isTup (.hsl n m q o) = false := (rfl)
@[go_sem] theorem tup_map : AVal.isTup (.map n) = false := (rfl)
@[go_sem] theorem tup_fn : AVal.isTup (.fn g cs cs') = false := (rfl)
@[go_sem] theorem tup_yld : AVal.isTup (.yld n) = false := (rfl)
@[go_sem] theorem tup_agg : AVal.isTup (.agg cs) = false := (rfl)
@[go_sem] theorem cells_own : AVal.cells (ownSl f p l) = [ownSl f p l] := by unfold ownSl; split <;> rfl
@[go_sem] theorem cells_bool : AVal.cells (.bool b) = [.bool b] := (rfl)
@[go_sem] theorem cells_int : AVal.cells (.int k z) = [.int k z] := (rfl)
@[go_sem] theorem cells_ptr : AVal.cells (.ptr n m) = [.ptr n m] := (rfl)
@[go_sem] theorem cells_vref : AVal.cells (.vref cs) = [.vref cs] := (rfl)
@[go_sem] theorem cells_vsl : AVal.cells (.vsl cs n pm) = [.vsl cs n pm] := (rfl)
@[go_sem] theorem cells_hsl (q : Nat) : AVal.cells (.hsl n m q o) = [.hsl n m q o] := (rfl)
@[go_sem] theorem cells_map : AVal.cells (.map n) = [.map n] := (rfl)
@[go_sem] theorem cells_fn : AVal.cells (.fn g cs cs') = [.fn g cs cs'] := (rfl)
@[go_sem] theorem cells_yld : AVal.cells (.yld n) = [.yld n] := (rfl)
@[go_sem] theorem cells_agg : AVal.cells (.agg cs) = cs := (rfl)
theorem norm_own (h : norms (cellsOf f l) = cellsOf f l) : AVal.norm (ownSl f p l) = sl f l := by
  unfold ownSl sl lenOf; split
  · rename_i h; rw [List.length_eq_zero_iff] at h; subst h; rfl
  · simp [AVal.norm, h]
end
section
variable {α : Type} (f : α → List AVal) (p : Nat) (l : List α) (n m : Nat) (cs : List AVal) (pm : Perm) (o : Option Nat) (H : Han) (fr : List AVal) (s : St) (x i : AOpd) (sz : Nat) (v : AVal)
@[go_sem] theorem len_own : lenV (ownSl f p l) s = some (i64 (Int.ofNat (lenOf l)), s) := by
  unfold ownSl lenOf; split
  · rename_i h; rw [h]; rfl
  · rfl
@[go_sem] theorem idx_own : idxV sz (ownSl f p l) v s = vrefS sz (cellsOf f l) s (idxA v (lenOf l)) := by
  unfold ownSl lenOf; split
  · rename_i h; rw [h]
    show none = _
    have h0 : idxA v 0 = none := by
      cases v <;> simp only [idxA]
      rw [if_neg (by omega)]
    rw [h0]; rfl
  · unfold idxV vrefS; simp only; cases idxA v l.length <;> rfl
end

theorem beqs_append : ∀ {a b a' b' : List AVal}, beqs a a' = true → beqs b b' = true → beqs (a ++ b) (a' ++ b') = true
  | [], b, [], b', _, h => h
  | x :: a, b, x' :: a', b', h, h' => by
    simp only [beqs, Bool.and_eq_true] at h
    simp only [List.cons_append, beqs, Bool.and_eq_true]
    exact ⟨h.1, beqs_append h.2 h'⟩
  | [], _, _ :: _, _, h, _ => by simp [beqs] at h
  | _ :: _, _, [], _, h, _ => by simp [beqs] at h
theorem beqs_cells {α : Type} {f : α → List AVal} (hf : ∀ a, beqs (f a) (f a) = true) (l : List α) : beqs (cellsOf f l) (cellsOf f l) = true := by
  induction l with
  | nil => rfl
  | cons a l ih => rw [cells_cons]; exact beqs_append (hf a) ih
theorem beq_own {α : Type} {f : α → List AVal} (hf : ∀ a, beqs (f a) (f a) = true) (p : Nat) (l : List α) : AVal.beq (ownSl f p l) (ownSl f p l) = true := by
  unfold ownSl; split
  · rfl
  · simp [AVal.beq, beqs_cells hf]
@[go_sem] theorem beq_int (k : IntKind) (n : Int) : AVal.beq (.int k n) (.int k n) = true := by simp [AVal.beq]
@[go_sem] theorem beq_ptr (b o : Nat) : AVal.beq (.ptr b o) (.ptr b o) = true := by simp [AVal.beq]
@[go_sem] theorem beq_agg (a b : List AVal) : AVal.beq (.agg a) (.agg b) = beqs a b := by simp [AVal.beq]
@[go_sem] theorem beqs_nil : beqs [] [] = true := by simp [beqs]
@[go_sem] theorem beqs_cons (x y : AVal) (a b : List AVal) : beqs (x :: a) (y :: b) = (x.beq y && beqs a b) := by simp [beqs]

def nthO (o : Option AObj) (off : Nat) : Option AVal := match o with
  | some (.cells cs) => cs[off]?
  | _ => none
def storeP (o : Option AObj) (s : St) (b off : Nat) (new : List AVal) : Option St := match o with
  | some (.cells cs) => if off + new.length ≤ cs.length then some (s.set b (.cells (splice cs off new))) else none
  | _ => none
section
variable (s : St) (b off : Nat) (a b' c' d e f g h : AVal) (l : List AVal)
@[go_sem] theorem look1_vref : look1 s (.vref (a :: l)) = some a := (rfl)
@[go_sem] theorem look1_ptr : look1 s (.ptr b off) = nthO (s.get b) off := (rfl)
@[go_sem] theorem store_ptr (new : List AVal) : storeN s (.ptr b off) new = storeP (s.get b) s b off new := (rfl)
@[go_sem] theorem nthO_0 : nthO (some (.cells (a :: l))) 0 = some a := (rfl)
@[go_sem] theorem nthO_1 : nthO (some (.cells (a :: b' :: l))) 1 = some b' := (rfl)
@[go_sem] theorem nthO_2 : nthO (some (.cells (a :: b' :: c' :: l))) 2 = some c' := (rfl)
@[go_sem] theorem nthO_3 : nthO (some (.cells (a :: b' :: c' :: d :: l))) 3 = some d := (rfl)
@[go_sem] theorem lookP_2_0 : lookP (some (.cells (a :: b' :: l))) 0 2 = some [a, b'] := by simp [lookP]
@[go_sem] theorem lookP_2_1 : lookP (some (.cells (a :: b' :: c' :: l))) 1 2 = some [b', c'] := by simp [lookP]
@[go_sem] theorem lookP_2_2 : lookP (some (.cells (a :: b' :: c' :: d :: l))) 2 2 = some [c', d] := by simp [lookP]
@[go_sem] theorem lookP_3_0 : lookP (some (.cells (a :: b' :: c' :: l))) 0 3 = some [a, b', c'] := by simp [lookP]
@[go_sem] theorem lookP_6_0 : lookP (some (.cells (a :: b' :: c' :: d :: e :: f :: l))) 0 6 = some [a, b', c', d, e, f] := by simp [lookP]
@[go_sem] theorem storeP_1_0 : storeP (some (.cells (a :: l))) s b 0 [g] = some (s.set b (.cells (g :: l))) := by simp [storeP, splice]
@[go_sem] theorem storeP_1_1 : storeP (some (.cells (a :: b' :: l))) s b 1 [g] = some (s.set b (.cells (a :: g :: l))) := by simp [storeP, splice]
@[go_sem] theorem storeP_1_2 : storeP (some (.cells (a :: b' :: c' :: l))) s b 2 [g] = some (s.set b (.cells (a :: b' :: g :: l))) := by simp [storeP, splice]
@[go_sem] theorem storeP_1_3 : storeP (some (.cells (a :: b' :: c' :: d :: l))) s b 3 [g] = some (s.set b (.cells (a :: b' :: c' :: g :: l))) := by simp [storeP, splice]
@[go_sem] theorem storeP_2_0 : storeP (some (.cells (a :: b' :: l))) s b 0 [g, h] = some (s.set b (.cells (g :: h :: l))) := by simp [storeP, splice]
@[go_sem] theorem storeP_3_0 (i : AVal) : storeP (some (.cells (a :: b' :: c' :: l))) s b 0 [g, h, i] = some (s.set b (.cells (g :: h :: i :: l))) := by simp [storeP, splice]
@[go_sem] theorem storeP_4_0 (i j : AVal) : storeP (some (.cells (a :: b' :: c' :: d :: l))) s b 0 [g, h, i, j] = some (s.set b (.cells (g :: h :: i :: j :: l))) := by simp [storeP, splice]
@[go_sem] theorem storeP_6_0 (g0 g1 g2 g3 g4 g5 : AVal) : storeP (some (.cells [a, b', c', d, e, f])) s b 0 [g0, g1, g2, g3, g4, g5] = some (s.set b (.cells [g0, g1, g2, g3, g4, g5])) := by simp [storeP, splice]
end

end Go.Proofs.Ytlhfeiacigmliaa

/- The wash-house's soap: what the functions compute, first part. -/
namespace Go.Proofs.Ytlhfeiacigmliaa
open Go
set_option maxRecDepth 10000

structure Rng where
  lo : Int
  hi : Int
structure Ent where
  fr : Int
  to : Int
  oz : Rng
structure Say where
  w : Int
  ow : Rng
structure Pay where
  fr : Int
  to : Int
  oz : Int
structure Slate where
  women : Int
  es : List Ent
  ss : List Say
def cR (r : Rng) : List AVal := [i64 r.lo, i64 r.hi]
def cE (e : Ent) : List AVal := [i64 e.fr, i64 e.to, i64 e.oz.lo, i64 e.oz.hi]
def cS (x : Say) : List AVal := [i64 x.w, i64 x.ow.lo, i64 x.ow.hi]
def cP (x : Pay) : List AVal := [i64 x.fr, i64 x.to, i64 x.oz]
abbrev vE (e : Ent) : AVal := .agg [i64 e.fr, i64 e.to, i64 e.oz.lo, i64 e.oz.hi]
abbrev vS (x : Say) : AVal := .agg [i64 x.w, i64 x.ow.lo, i64 x.ow.hi]
@[go_sem] theorem norms_cE (l : List Ent) : norms (cellsOf cE l) = cellsOf cE l := norms_cells (fun _ => rfl) l
@[go_sem] theorem norms_cS (l : List Say) : norms (cellsOf cS l) = cellsOf cS l := norms_cells (fun _ => rfl) l
theorem drop_cR {l : List Rng} {i : Nat} {lo hi : Int} (h : l[i]? = some ⟨lo, hi⟩) : List.drop (Nat.mul i 2) (cellsOf cR l) = i64 lo :: i64 hi :: cellsOf cR (l.drop (i + 1)) := drop_cells (f := cR) (fun _ => rfl) h
theorem drop_cE {l : List Ent} {i : Nat} {a b lo hi : Int} (h : l[i]? = some ⟨a, b, ⟨lo, hi⟩⟩) : List.drop (Nat.mul i 4) (cellsOf cE l) = i64 a :: i64 b :: i64 lo :: i64 hi :: cellsOf cE (l.drop (i + 1)) := drop_cells (f := cE) (fun _ => rfl) h
theorem drop_cS {l : List Say} {i : Nat} {a lo hi : Int} (h : l[i]? = some ⟨a, ⟨lo, hi⟩⟩) : List.drop (Nat.mul i 3) (cellsOf cS l) = i64 a :: i64 lo :: i64 hi :: cellsOf cS (l.drop (i + 1)) := drop_cells (f := cS) (fun _ => rfl) h
theorem drop_cP {l : List Pay} {i : Nat} {a b n : Int} (h : l[i]? = some ⟨a, b, n⟩) : List.drop (Nat.mul i 3) (cellsOf cP l) = i64 a :: i64 b :: i64 n :: cellsOf cP (l.drop (i + 1)) := drop_cells (f := cP) (fun _ => rfl) h
abbrev vSl (S : Slate) : AVal := .agg [i64 S.women, sl cE S.es, sl cS S.ss]

def within (n lo hi : Int) : Bool := decide (lo ≤ n) && decide (n ≤ hi)
@[go_sem] theorem k129 (s : St) (n lo hi : Int) : lim tbl (.call 129 [i64 n, i64 lo, i64 hi]) s = some (.ret, [.bool (within n lo hi)], s) := by
  rw [lim_call tbl_129]; obtain ⟨N, O, p, q⟩ := s
  by_cases h : lo ≤ n
  · (try simp only [go_sem, ↓reduceIte, Nat.reduceAdd, Nat.reduceEqDiff, Nat.reduceLT, Nat.reduceLeDiff, Nat.reduceBEq, Int.reduceEq, Int.reduceLT, Int.reduceLE]); rw [le_y h]; (try simp only [go_sem, ↓reduceIte, Nat.reduceAdd, Nat.reduceEqDiff, Nat.reduceLT, Nat.reduceLeDiff, Nat.reduceBEq, Int.reduceEq, Int.reduceLT, Int.reduceLE]); simp [within, h]
  · (try simp only [go_sem, ↓reduceIte, Nat.reduceAdd, Nat.reduceEqDiff, Nat.reduceLT, Nat.reduceLeDiff, Nat.reduceBEq, Int.reduceEq, Int.reduceLT, Int.reduceLE]); rw [le_n h]; (try simp only [go_sem, ↓reduceIte, Nat.reduceAdd, Nat.reduceEqDiff, Nat.reduceLT, Nat.reduceLeDiff, Nat.reduceBEq, Int.reduceEq, Int.reduceLT, Int.reduceLE]); simp [within, h]
@[go_sem] theorem k118 (s : St) (n lo hi : Int) : lim tbl (.call 118 [.agg [i64 lo, i64 hi], i64 n]) s = some (.ret, [.bool (within n lo hi)], s) := by
  rw [lim_call tbl_118]; obtain ⟨N, O, p, q⟩ := s
  (try simp only [go_sem, ↓reduceIte, Nat.reduceAdd, Nat.reduceEqDiff, Nat.reduceLT, Nat.reduceLeDiff, Nat.reduceBEq, Int.reduceEq, Int.reduceLT, Int.reduceLE])
def between (rlo rhi lo hi : Int) : Bool := decide (lo ≤ rlo) && (decide (rlo ≤ rhi) && decide (rhi ≤ hi))
@[go_sem] theorem k120 (s : St) (rlo rhi lo hi : Int) : lim tbl (.call 120 [.agg [i64 rlo, i64 rhi], i64 lo, i64 hi]) s = some (.ret, [.bool (between rlo rhi lo hi)], s) := by
  rw [lim_call tbl_120]; obtain ⟨N, O, p, q⟩ := s
  by_cases h : lo ≤ rlo
  · by_cases h' : rlo ≤ rhi
    · (try simp only [go_sem, ↓reduceIte, Nat.reduceAdd, Nat.reduceEqDiff, Nat.reduceLT, Nat.reduceLeDiff, Nat.reduceBEq, Int.reduceEq, Int.reduceLT, Int.reduceLE]); rw [le_y h]; (try simp only [go_sem, ↓reduceIte, Nat.reduceAdd, Nat.reduceEqDiff, Nat.reduceLT, Nat.reduceLeDiff, Nat.reduceBEq, Int.reduceEq, Int.reduceLT, Int.reduceLE]); rw [le_y h']; (try simp only [go_sem, ↓reduceIte, Nat.reduceAdd, Nat.reduceEqDiff, Nat.reduceLT, Nat.reduceLeDiff, Nat.reduceBEq, Int.reduceEq, Int.reduceLT, Int.reduceLE]); simp [between, h, h']
    · (try simp only [go_sem, ↓reduceIte, Nat.reduceAdd, Nat.reduceEqDiff, Nat.reduceLT, Nat.reduceLeDiff, Nat.reduceBEq, Int.reduceEq, Int.reduceLT, Int.reduceLE]); rw [le_y h]; (try simp only [go_sem, ↓reduceIte, Nat.reduceAdd, Nat.reduceEqDiff, Nat.reduceLT, Nat.reduceLeDiff, Nat.reduceBEq, Int.reduceEq, Int.reduceLT, Int.reduceLE]); rw [le_n h']; (try simp only [go_sem, ↓reduceIte, Nat.reduceAdd, Nat.reduceEqDiff, Nat.reduceLT, Nat.reduceLeDiff, Nat.reduceBEq, Int.reduceEq, Int.reduceLT, Int.reduceLE]); simp [between, h, h']
  · (try simp only [go_sem, ↓reduceIte, Nat.reduceAdd, Nat.reduceEqDiff, Nat.reduceLT, Nat.reduceLeDiff, Nat.reduceBEq, Int.reduceEq, Int.reduceLT, Int.reduceLE]); rw [le_n h]; (try simp only [go_sem, ↓reduceIte, Nat.reduceAdd, Nat.reduceEqDiff, Nat.reduceLT, Nat.reduceLeDiff, Nat.reduceBEq, Int.reduceEq, Int.reduceLT, Int.reduceLE]); simp [between, h]
@[go_sem] theorem k102 (s : St) (lo hi : Int) : lim tbl (.call 102 [.agg [i64 lo, i64 hi]]) s = some (.ret, [i64 (wr .i64 (wr .i64 (hi - lo) + 1))], s) := by
  rw [lim_call tbl_102]; obtain ⟨N, O, p, q⟩ := s
  (try simp only [go_sem, ↓reduceIte, Nat.reduceAdd, Nat.reduceEqDiff, Nat.reduceLT, Nat.reduceLeDiff, Nat.reduceBEq, Int.reduceEq, Int.reduceLT, Int.reduceLE])
  rfl
def woman (w n : Int) : Bool := within n 0 (wr .i64 (w - 1))
@[go_sem] theorem k121 (s : St) (w n : Int) (es : List Ent) (ss : List Say) : lim tbl (.call 121 [.agg [i64 w, sl cE es, sl cS ss], i64 n]) s = some (.ret, [.bool (woman w n)], s) := by
  rw [lim_call tbl_121]; obtain ⟨N, O, p, q⟩ := s
  (try simp only [go_sem, ↓reduceIte, Nat.reduceAdd, Nat.reduceEqDiff, Nat.reduceLT, Nat.reduceLeDiff, Nat.reduceBEq, Int.reduceEq, Int.reduceLT, Int.reduceLE])
  rfl
def pair (w a b : Int) : Bool := woman w a && (woman w b && !decide (a = b))
@[go_sem] theorem k119 (s : St) (w a b : Int) (es : List Ent) (ss : List Say) : lim tbl (.call 119 [.agg [i64 w, sl cE es, sl cS ss], i64 a, i64 b]) s = some (.ret, [.bool (pair w a b)], s) := by
  rw [lim_call tbl_119]; obtain ⟨N, O, p, q⟩ := s
  cases h : woman w a <;> cases h' : woman w b
  all_goals ((try simp only [go_sem, ↓reduceIte, Nat.reduceAdd, Nat.reduceEqDiff, Nat.reduceLT, Nat.reduceLeDiff, Nat.reduceBEq, Int.reduceEq, Int.reduceLT, Int.reduceLE]); (repeat (simp only [h, h']; try (try simp only [go_sem, ↓reduceIte, Nat.reduceAdd, Nat.reduceEqDiff, Nat.reduceLT, Nat.reduceLeDiff, Nat.reduceBEq, Int.reduceEq, Int.reduceLT, Int.reduceLE]))); try simp [pair, h, h'])
def entOk (w : Int) (e : Ent) : Bool := pair w e.fr e.to && between e.oz.lo e.oz.hi 0 40
@[go_sem] theorem k97 (s : St) (w a b lo hi : Int) (es : List Ent) (ss : List Say) : lim tbl (.call 97 [.agg [i64 w, sl cE es, sl cS ss], .agg [i64 a, i64 b, i64 lo, i64 hi]]) s = some (.ret, [.bool (entOk w ⟨a, b, ⟨lo, hi⟩⟩)], s) := by
  rw [lim_call tbl_97]; obtain ⟨N, O, p, q⟩ := s
  cases h : pair w a b
  all_goals ((try simp only [go_sem, ↓reduceIte, Nat.reduceAdd, Nat.reduceEqDiff, Nat.reduceLT, Nat.reduceLeDiff, Nat.reduceBEq, Int.reduceEq, Int.reduceLT, Int.reduceLE]); (repeat (simp only [h]; try (try simp only [go_sem, ↓reduceIte, Nat.reduceAdd, Nat.reduceEqDiff, Nat.reduceLT, Nat.reduceLeDiff, Nat.reduceBEq, Int.reduceEq, Int.reduceLT, Int.reduceLE]))); try simp [entOk, h])
def sayOk (w : Int) (x : Say) : Bool := woman w x.w && between x.ow.lo x.ow.hi (-240) 240
@[go_sem] theorem k98 (s : St) (w a lo hi : Int) (es : List Ent) (ss : List Say) : lim tbl (.call 98 [.agg [i64 w, sl cE es, sl cS ss], .agg [i64 a, i64 lo, i64 hi]]) s = some (.ret, [.bool (sayOk w ⟨a, ⟨lo, hi⟩⟩)], s) := by
  rw [lim_call tbl_98]; obtain ⟨N, O, p, q⟩ := s
  cases h : woman w a
  all_goals ((try simp only [go_sem, ↓reduceIte, Nat.reduceAdd, Nat.reduceEqDiff, Nat.reduceLT, Nat.reduceLeDiff, Nat.reduceBEq, Int.reduceEq, Int.reduceLT, Int.reduceLE]); (repeat (simp only [h]; try (try simp only [go_sem, ↓reduceIte, Nat.reduceAdd, Nat.reduceEqDiff, Nat.reduceLT, Nat.reduceLeDiff, Nat.reduceBEq, Int.reduceEq, Int.reduceLT, Int.reduceLE]))); try simp [sayOk, h])

@[go_sem] theorem k126 (s : St) (a b : Int) : lim tbl (.call 126 [.vsl [i64 a, i64 b] 2 .no]) s = some (.ret, [i64 (mn a b)], s) := by
  rw [lim_call tbl_126]; obtain ⟨N, O, p, q⟩ := s
  (try simp only [go_sem, ↓reduceIte, Nat.reduceAdd, Nat.reduceEqDiff, Nat.reduceLT, Nat.reduceLeDiff, Nat.reduceBEq, Int.reduceEq, Int.reduceLT, Int.reduceLE])
  rw [lim_loop]; (try simp only [go_sem, ↓reduceIte, Nat.reduceAdd, Nat.reduceEqDiff, Nat.reduceLT, Nat.reduceLeDiff, Nat.reduceBEq, Int.reduceEq, Int.reduceLT, Int.reduceLE])
  rw [lim_loop]; (try simp only [go_sem, ↓reduceIte, Nat.reduceAdd, Nat.reduceEqDiff, Nat.reduceLT, Nat.reduceLeDiff, Nat.reduceBEq, Int.reduceEq, Int.reduceLT, Int.reduceLE])
@[go_sem] theorem k101 (s : St) (a b : Int) : lim tbl (.call 101 [.vsl [i64 a, i64 b] 2 .full]) s = some (.ret, [i64 (mn a b)], s) := by
  rw [lim_call tbl_101]; obtain ⟨N, O, p, q⟩ := s
  (try simp only [go_sem, ↓reduceIte, Nat.reduceAdd, Nat.reduceEqDiff, Nat.reduceLT, Nat.reduceLeDiff, Nat.reduceBEq, Int.reduceEq, Int.reduceLT, Int.reduceLE])
@[go_sem] theorem k107 (s : St) (lo hi n : Int) : lim tbl (.call 107 [.agg [i64 lo, i64 hi], i64 n]) s = some (.ret, [.agg [i64 (mn lo n), i64 (mx hi n)]], s) := by
  rw [lim_call tbl_107]; obtain ⟨N, O, p, q⟩ := s
  (try simp only [go_sem, ↓reduceIte, Nat.reduceAdd, Nat.reduceEqDiff, Nat.reduceLT, Nat.reduceLeDiff, Nat.reduceBEq, Int.reduceEq, Int.reduceLT, Int.reduceLE])
theorem k123 {P : Ent → Bool} {G : AVal} (hn : G.norm = G) {s : St} {e : Ent} (hG : callA (lim tbl) G [vE e] s = some (.bool (P e), s)) :
    ∀ R, R = some (.ret, [.bool (!P e)], s) → lim tbl (.call 123 [vE e, .vref [G]]) s = R := by
  intro R hR
  rw [lim_call tbl_123]; obtain ⟨N, O, p, q⟩ := s; obtain ⟨a, b, ⟨lo, hi⟩⟩ := e
  cases hP : P ⟨a, b, ⟨lo, hi⟩⟩
  all_goals
    rw [hP] at hG hR
    (try simp only [go_sem, ↓reduceIte, Nat.reduceAdd, Nat.reduceEqDiff, Nat.reduceLT, Nat.reduceLeDiff, Nat.reduceBEq, Int.reduceEq, Int.reduceLT, Int.reduceLE]); simp only [hn]; (try simp only [go_sem, ↓reduceIte, Nat.reduceAdd, Nat.reduceEqDiff, Nat.reduceLT, Nat.reduceLeDiff, Nat.reduceBEq, Int.reduceEq, Int.reduceLT, Int.reduceLE]); simp only [hG]; (try simp only [go_sem, ↓reduceIte, Nat.reduceAdd, Nat.reduceEqDiff, Nat.reduceLT, Nat.reduceLeDiff, Nat.reduceBEq, Int.reduceEq, Int.reduceLT, Int.reduceLE]); exact hR.symm
def idxOf {α : Type} (P : α → Bool) (l : List α) : Int := match l.findIdx? P with | some i => Int.ofNat i | none => -1
theorem getElem_drop {α : Type} {l : List α} {i : Nat} (h : i < l.length) : ∃ a, l[i]? = some a ∧ l.drop i = a :: l.drop (i + 1) :=
  ⟨l[i], List.getElem?_eq_getElem h, List.drop_eq_getElem_cons h⟩
theorem l133 {P : Ent → Bool} {G : AVal} (s : St) (es : List Ent) (hl : es.length < 1000000) (hG : ∀ e ∈ es, callA (lim tbl) G [vE e] s = some (.bool (P e), s)) : ∀ (k i : Nat), i + k = es.length → ∀ R,
    R = (match (es.drop i).findIdx? P with | some j => some (.ret, [i64 (Int.ofNat (i + j))], s) | none => some (.exit 0, [], s)) →
    lim tbl (.loop a133_l0 19 ⟨[0, 1, 7, 8], [], [4]⟩ [sl cE es, G, i64 (Int.ofNat (lenOf es)), i64 (Int.ofNat i)]) s = R := by
  intro k
  induction k with
  | zero =>
    intro i hi R hR
    obtain ⟨N, O, p, q⟩ := s
    rw [List.drop_eq_nil_of_le (by omega)] at hR
    rw [lim_loop]
    (try simp only [go_sem, ↓reduceIte, Nat.reduceAdd, Nat.reduceEqDiff, Nat.reduceLT, Nat.reduceLeDiff, Nat.reduceBEq, Int.reduceEq, Int.reduceLT, Int.reduceLE]); rw [lt_no (by simp [lenOf]; omega)]; (try simp only [go_sem, ↓reduceIte, Nat.reduceAdd, Nat.reduceEqDiff, Nat.reduceLT, Nat.reduceLeDiff, Nat.reduceBEq, Int.reduceEq, Int.reduceLT, Int.reduceLE]); exact hR.symm
  | succ k ih =>
    intro i hi R hR
    obtain ⟨N, O, p, q⟩ := s
    have hlt : i < es.length := by omega
    obtain ⟨e, he, hd⟩ := getElem_drop hlt
    have hGe := hG e (List.mem_of_getElem? he)
    obtain ⟨a, b, ⟨lo, hi'⟩⟩ := e
    rw [hd, List.findIdx?_cons] at hR
    rw [lim_loop]
    (try simp only [go_sem, ↓reduceIte, Nat.reduceAdd, Nat.reduceEqDiff, Nat.reduceLT, Nat.reduceLeDiff, Nat.reduceBEq, Int.reduceEq, Int.reduceLT, Int.reduceLE]); rw [lt_yes (by simpa [lenOf] using hlt)]; (try simp only [go_sem, ↓reduceIte, Nat.reduceAdd, Nat.reduceEqDiff, Nat.reduceLT, Nat.reduceLeDiff, Nat.reduceBEq, Int.reduceEq, Int.reduceLT, Int.reduceLE])
    rw [idxA_at (by simpa [lenOf] using hlt)]; (try simp only [go_sem, ↓reduceIte, Nat.reduceAdd, Nat.reduceEqDiff, Nat.reduceLT, Nat.reduceLeDiff, Nat.reduceBEq, Int.reduceEq, Int.reduceLT, Int.reduceLE])
    rw [drop_cE he]; (try simp only [go_sem, ↓reduceIte, Nat.reduceAdd, Nat.reduceEqDiff, Nat.reduceLT, Nat.reduceLeDiff, Nat.reduceBEq, Int.reduceEq, Int.reduceLT, Int.reduceLE])
    simp only [hGe]
    cases hP : P ⟨a, b, ⟨lo, hi'⟩⟩ with
    | true =>
      rw [hP] at hR
      (try simp only [go_sem, ↓reduceIte, Nat.reduceAdd, Nat.reduceEqDiff, Nat.reduceLT, Nat.reduceLeDiff, Nat.reduceBEq, Int.reduceEq, Int.reduceLT, Int.reduceLE]); rw [hR]; rfl
    | false =>
      rw [hP] at hR
      (try simp only [go_sem, ↓reduceIte, Nat.reduceAdd, Nat.reduceEqDiff, Nat.reduceLT, Nat.reduceLeDiff, Nat.reduceBEq, Int.reduceEq, Int.reduceLT, Int.reduceLE]); rw [wr_up (by omega)]
      refine ih (i + 1) (by omega) R ?_
      rw [hR]
      cases (es.drop (i + 1)).findIdx? P with
      | none => rfl
      | some j => simp; omega
/-- All, some of a list. -/
def allB {α : Type} (P : α → Bool) (l : List α) : Bool := l.all P
def anyB {α : Type} (P : α → Bool) (l : List α) : Bool := l.any P
theorem allB_any {α : Type} (P : α → Bool) (l : List α) : (!anyB (fun e => !P e) l) = allB P l := by unfold anyB allB; rw [List.any_eq_not_all_not]; simp
theorem k133 {P : Ent → Bool} {G : AVal} (hn : G.norm = G) (s : St) (es : List Ent) (hl : es.length < 1000000) (hG : ∀ e ∈ es, callA (lim tbl) G [vE e] s = some (.bool (P e), s)) :
    lim tbl (.call 133 [sl cE es, G]) s = some (.ret, [i64 (idxOf P es)], s) := by
  rw [lim_call tbl_133]
  have h := l133 s es hl hG es.length 0 (by omega) _ rfl
  obtain ⟨N, O, p, q⟩ := s
  (try simp only [go_sem, ↓reduceIte, Nat.reduceAdd, Nat.reduceEqDiff, Nat.reduceLT, Nat.reduceLeDiff, Nat.reduceBEq, Int.reduceEq, Int.reduceLT, Int.reduceLE]); simp only [hn]; (try simp only [go_sem, ↓reduceIte, Nat.reduceAdd, Nat.reduceEqDiff, Nat.reduceLT, Nat.reduceLeDiff, Nat.reduceBEq, Int.reduceEq, Int.reduceLT, Int.reduceLE])
  rw [show (0 : Int) = Int.ofNat 0 from rfl, h]
  simp only [idxOf, List.drop_zero]
  cases es.findIdx? P with
  | none => (try simp only [go_sem, ↓reduceIte, Nat.reduceAdd, Nat.reduceEqDiff, Nat.reduceLT, Nat.reduceLeDiff, Nat.reduceBEq, Int.reduceEq, Int.reduceLT, Int.reduceLE])
  | some j => simp only [Nat.zero_add]; (try simp only [go_sem, ↓reduceIte, Nat.reduceAdd, Nat.reduceEqDiff, Nat.reduceLT, Nat.reduceLeDiff, Nat.reduceBEq, Int.reduceEq, Int.reduceLT, Int.reduceLE])
theorem k122 {P : Ent → Bool} {G : AVal} (hn : G.norm = G) (s : St) (es : List Ent) (hl : es.length < 1000000) (hG : ∀ e ∈ es, callA (lim tbl) G [vE e] s = some (.bool (P e), s)) :
    lim tbl (.call 122 [sl cE es, G]) s = some (.ret, [.bool (anyB P es)], s) := by
  rw [lim_call tbl_122]
  have h := k133 hn s es hl hG
  have h2 : (anyB P es = true → 0 ≤ idxOf P es) ∧ (anyB P es = false → ¬ 0 ≤ idxOf P es) := by
    unfold idxOf anyB
    cases hf : es.findIdx? P with
    | none => rw [List.findIdx?_eq_none_iff] at hf; simp; exact hf
    | some j => simp; rw [List.findIdx?_eq_some_iff_getElem] at hf; obtain ⟨h1, h2, _⟩ := hf; exact ⟨_, List.getElem_mem h1, h2⟩
  obtain ⟨N, O, p, q⟩ := s
  (try simp only [go_sem, ↓reduceIte, Nat.reduceAdd, Nat.reduceEqDiff, Nat.reduceLT, Nat.reduceLeDiff, Nat.reduceBEq, Int.reduceEq, Int.reduceLT, Int.reduceLE]); simp only [hn]; (try simp only [go_sem, ↓reduceIte, Nat.reduceAdd, Nat.reduceEqDiff, Nat.reduceLT, Nat.reduceLeDiff, Nat.reduceBEq, Int.reduceEq, Int.reduceLT, Int.reduceLE]); simp only [h]; (try simp only [go_sem, ↓reduceIte, Nat.reduceAdd, Nat.reduceEqDiff, Nat.reduceLT, Nat.reduceLeDiff, Nat.reduceBEq, Int.reduceEq, Int.reduceLT, Int.reduceLE])
  cases ha : anyB P es with
  | true => rw [le_y (h2.1 ha)]
  | false => rw [le_n (h2.2 ha)]
theorem k99 {P : Ent → Bool} {f : Fn} {fa fb : List AVal} (ha : norms fa = fa) (hb : norms fb = fb) (s : St) (es : List Ent) (hl : es.length < 1000000) (hG : ∀ e ∈ es, callA (lim tbl) (.fn f fa fb) [vE e] s = some (.bool (P e), s)) :
    lim tbl (.call 99 [sl cE es, .fn f fa fb]) s = some (.ret, [.bool (allB P es)], s) := by
  rw [lim_call tbl_99]
  have hn : AVal.norm (.fn f fa fb) = .fn f fa fb := by rw [norm_fn, ha, hb]
  have h := k122 (P := fun e => !P e) (G := .fn (.func 123) [] [.vref [.fn f fa fb]]) (by simp [AVal.norm, norms, ha, hb]) s es hl (fun e he => by
    show (if 123 < 4096 then one (lim tbl (.call 123 ([] ++ [vE e] ++ [.vref [.fn f fa fb]])) s) else none) = _
    rw [if_pos (by omega)]
    show one (lim tbl (.call 123 [vE e, .vref [.fn f fa fb]]) s) = _
    rw [k123 hn (hG e he) _ rfl]; rfl)
  have h2 := allB_any P es
  rw [← h2]
  obtain ⟨N, O, p, q⟩ := s
  (try simp only [go_sem, ↓reduceIte, Nat.reduceAdd, Nat.reduceEqDiff, Nat.reduceLT, Nat.reduceLeDiff, Nat.reduceBEq, Int.reduceEq, Int.reduceLT, Int.reduceLE]); repeat (simp only [ha, hb, h]; (try simp only [go_sem, ↓reduceIte, Nat.reduceAdd, Nat.reduceEqDiff, Nat.reduceLT, Nat.reduceLeDiff, Nat.reduceBEq, Int.reduceEq, Int.reduceLT, Int.reduceLE]))

theorem k125 {P : Say → Bool} {G : AVal} (hn : G.norm = G) {s : St} {e : Say} (hG : callA (lim tbl) G [vS e] s = some (.bool (P e), s)) :
    ∀ R, R = some (.ret, [.bool (!P e)], s) → lim tbl (.call 125 [vS e, .vref [G]]) s = R := by
  intro R hR
  rw [lim_call tbl_125]; obtain ⟨N, O, p, q⟩ := s; obtain ⟨a, ⟨lo, hi⟩⟩ := e
  cases hP : P ⟨a, ⟨lo, hi⟩⟩
  all_goals
    rw [hP] at hG hR
    (try simp only [go_sem, ↓reduceIte, Nat.reduceAdd, Nat.reduceEqDiff, Nat.reduceLT, Nat.reduceLeDiff, Nat.reduceBEq, Int.reduceEq, Int.reduceLT, Int.reduceLE]); simp only [hn]; (try simp only [go_sem, ↓reduceIte, Nat.reduceAdd, Nat.reduceEqDiff, Nat.reduceLT, Nat.reduceLeDiff, Nat.reduceBEq, Int.reduceEq, Int.reduceLT, Int.reduceLE]); simp only [hG]; (try simp only [go_sem, ↓reduceIte, Nat.reduceAdd, Nat.reduceEqDiff, Nat.reduceLT, Nat.reduceLeDiff, Nat.reduceBEq, Int.reduceEq, Int.reduceLT, Int.reduceLE]); exact hR.symm
theorem l134 {P : Say → Bool} {G : AVal} (s : St) (es : List Say) (hl : es.length < 1000000) (hG : ∀ e ∈ es, callA (lim tbl) G [vS e] s = some (.bool (P e), s)) : ∀ (k i : Nat), i + k = es.length → ∀ R,
    R = (match (es.drop i).findIdx? P with | some j => some (.ret, [i64 (Int.ofNat (i + j))], s) | none => some (.exit 0, [], s)) →
    lim tbl (.loop a134_l0 19 ⟨[0, 1, 7, 8], [], [4]⟩ [sl cS es, G, i64 (Int.ofNat (lenOf es)), i64 (Int.ofNat i)]) s = R := by
  intro k
  induction k with
  | zero =>
    intro i hi R hR
    obtain ⟨N, O, p, q⟩ := s
    rw [List.drop_eq_nil_of_le (by omega)] at hR
    rw [lim_loop]
    (try simp only [go_sem, ↓reduceIte, Nat.reduceAdd, Nat.reduceEqDiff, Nat.reduceLT, Nat.reduceLeDiff, Nat.reduceBEq, Int.reduceEq, Int.reduceLT, Int.reduceLE]); rw [lt_no (by simp [lenOf]; omega)]; (try simp only [go_sem, ↓reduceIte, Nat.reduceAdd, Nat.reduceEqDiff, Nat.reduceLT, Nat.reduceLeDiff, Nat.reduceBEq, Int.reduceEq, Int.reduceLT, Int.reduceLE]); exact hR.symm
  | succ k ih =>
    intro i hi R hR
    obtain ⟨N, O, p, q⟩ := s
    have hlt : i < es.length := by omega
    obtain ⟨e, he, hd⟩ := getElem_drop hlt
    have hGe := hG e (List.mem_of_getElem? he)
    obtain ⟨a, ⟨lo, hi'⟩⟩ := e
    rw [hd, List.findIdx?_cons] at hR
    rw [lim_loop]
    (try simp only [go_sem, ↓reduceIte, Nat.reduceAdd, Nat.reduceEqDiff, Nat.reduceLT, Nat.reduceLeDiff, Nat.reduceBEq, Int.reduceEq, Int.reduceLT, Int.reduceLE]); rw [lt_yes (by simpa [lenOf] using hlt)]; (try simp only [go_sem, ↓reduceIte, Nat.reduceAdd, Nat.reduceEqDiff, Nat.reduceLT, Nat.reduceLeDiff, Nat.reduceBEq, Int.reduceEq, Int.reduceLT, Int.reduceLE])
    rw [idxA_at (by simpa [lenOf] using hlt)]; (try simp only [go_sem, ↓reduceIte, Nat.reduceAdd, Nat.reduceEqDiff, Nat.reduceLT, Nat.reduceLeDiff, Nat.reduceBEq, Int.reduceEq, Int.reduceLT, Int.reduceLE])
    rw [drop_cS he]; (try simp only [go_sem, ↓reduceIte, Nat.reduceAdd, Nat.reduceEqDiff, Nat.reduceLT, Nat.reduceLeDiff, Nat.reduceBEq, Int.reduceEq, Int.reduceLT, Int.reduceLE])
    simp only [hGe]
    cases hP : P ⟨a, ⟨lo, hi'⟩⟩ with
    | true =>
      rw [hP] at hR
      (try simp only [go_sem, ↓reduceIte, Nat.reduceAdd, Nat.reduceEqDiff, Nat.reduceLT, Nat.reduceLeDiff, Nat.reduceBEq, Int.reduceEq, Int.reduceLT, Int.reduceLE]); rw [hR]; rfl
    | false =>
      rw [hP] at hR
      (try simp only [go_sem, ↓reduceIte, Nat.reduceAdd, Nat.reduceEqDiff, Nat.reduceLT, Nat.reduceLeDiff, Nat.reduceBEq, Int.reduceEq, Int.reduceLT, Int.reduceLE]); rw [wr_up (by omega)]
      refine ih (i + 1) (by omega) R ?_
      rw [hR]
      cases (es.drop (i + 1)).findIdx? P with
      | none => rfl
      | some j => simp; omega
theorem k134 {P : Say → Bool} {G : AVal} (hn : G.norm = G) (s : St) (es : List Say) (hl : es.length < 1000000) (hG : ∀ e ∈ es, callA (lim tbl) G [vS e] s = some (.bool (P e), s)) :
    lim tbl (.call 134 [sl cS es, G]) s = some (.ret, [i64 (idxOf P es)], s) := by
  rw [lim_call tbl_134]
  have h := l134 s es hl hG es.length 0 (by omega) _ rfl
  obtain ⟨N, O, p, q⟩ := s
  (try simp only [go_sem, ↓reduceIte, Nat.reduceAdd, Nat.reduceEqDiff, Nat.reduceLT, Nat.reduceLeDiff, Nat.reduceBEq, Int.reduceEq, Int.reduceLT, Int.reduceLE]); simp only [hn]; (try simp only [go_sem, ↓reduceIte, Nat.reduceAdd, Nat.reduceEqDiff, Nat.reduceLT, Nat.reduceLeDiff, Nat.reduceBEq, Int.reduceEq, Int.reduceLT, Int.reduceLE])
  rw [show (0 : Int) = Int.ofNat 0 from rfl, h]
  simp only [idxOf, List.drop_zero]
  cases es.findIdx? P with
  | none => (try simp only [go_sem, ↓reduceIte, Nat.reduceAdd, Nat.reduceEqDiff, Nat.reduceLT, Nat.reduceLeDiff, Nat.reduceBEq, Int.reduceEq, Int.reduceLT, Int.reduceLE])
  | some j => simp only [Nat.zero_add]; (try simp only [go_sem, ↓reduceIte, Nat.reduceAdd, Nat.reduceEqDiff, Nat.reduceLT, Nat.reduceLeDiff, Nat.reduceBEq, Int.reduceEq, Int.reduceLT, Int.reduceLE])
theorem k124 {P : Say → Bool} {G : AVal} (hn : G.norm = G) (s : St) (es : List Say) (hl : es.length < 1000000) (hG : ∀ e ∈ es, callA (lim tbl) G [vS e] s = some (.bool (P e), s)) :
    lim tbl (.call 124 [sl cS es, G]) s = some (.ret, [.bool (anyB P es)], s) := by
  rw [lim_call tbl_124]
  have h := k134 hn s es hl hG
  have h2 : (anyB P es = true → 0 ≤ idxOf P es) ∧ (anyB P es = false → ¬ 0 ≤ idxOf P es) := by
    unfold idxOf anyB
    cases hf : es.findIdx? P with
    | none => rw [List.findIdx?_eq_none_iff] at hf; simp; exact hf
    | some j => simp; rw [List.findIdx?_eq_some_iff_getElem] at hf; obtain ⟨h1, h2, _⟩ := hf; exact ⟨_, List.getElem_mem h1, h2⟩
  obtain ⟨N, O, p, q⟩ := s
  (try simp only [go_sem, ↓reduceIte, Nat.reduceAdd, Nat.reduceEqDiff, Nat.reduceLT, Nat.reduceLeDiff, Nat.reduceBEq, Int.reduceEq, Int.reduceLT, Int.reduceLE]); simp only [hn]; (try simp only [go_sem, ↓reduceIte, Nat.reduceAdd, Nat.reduceEqDiff, Nat.reduceLT, Nat.reduceLeDiff, Nat.reduceBEq, Int.reduceEq, Int.reduceLT, Int.reduceLE]); simp only [h]; (try simp only [go_sem, ↓reduceIte, Nat.reduceAdd, Nat.reduceEqDiff, Nat.reduceLT, Nat.reduceLeDiff, Nat.reduceBEq, Int.reduceEq, Int.reduceLT, Int.reduceLE])
  cases ha : anyB P es with
  | true => rw [le_y (h2.1 ha)]
  | false => rw [le_n (h2.2 ha)]
theorem k100 {P : Say → Bool} {f : Fn} {fa fb : List AVal} (ha : norms fa = fa) (hb : norms fb = fb) (s : St) (es : List Say) (hl : es.length < 1000000) (hG : ∀ e ∈ es, callA (lim tbl) (.fn f fa fb) [vS e] s = some (.bool (P e), s)) :
    lim tbl (.call 100 [sl cS es, .fn f fa fb]) s = some (.ret, [.bool (allB P es)], s) := by
  rw [lim_call tbl_100]
  have hn : AVal.norm (.fn f fa fb) = .fn f fa fb := by rw [norm_fn, ha, hb]
  have h := k124 (P := fun e => !P e) (G := .fn (.func 125) [] [.vref [.fn f fa fb]]) (by simp [AVal.norm, norms, ha, hb]) s es hl (fun e he => by
    show (if 125 < 4096 then one (lim tbl (.call 125 ([] ++ [vS e] ++ [.vref [.fn f fa fb]])) s) else none) = _
    rw [if_pos (by omega)]
    show one (lim tbl (.call 125 [vS e, .vref [.fn f fa fb]]) s) = _
    rw [k125 hn (hG e he) _ rfl]; rfl)
  have h2 := allB_any P es
  rw [← h2]
  obtain ⟨N, O, p, q⟩ := s
  (try simp only [go_sem, ↓reduceIte, Nat.reduceAdd, Nat.reduceEqDiff, Nat.reduceLT, Nat.reduceLeDiff, Nat.reduceBEq, Int.reduceEq, Int.reduceLT, Int.reduceLE]); repeat (simp only [ha, hb, h]; (try simp only [go_sem, ↓reduceIte, Nat.reduceAdd, Nat.reduceEqDiff, Nat.reduceLT, Nat.reduceLeDiff, Nat.reduceBEq, Int.reduceEq, Int.reduceLT, Int.reduceLE]))
end Go.Proofs.Ytlhfeiacigmliaa

/- The wash-house's soap: what the functions compute, second part. -/
namespace Go.Proofs.Ytlhfeiacigmliaa
open Go
set_option maxRecDepth 10000

def size (r : Rng) : Int := wr .i64 (wr .i64 (r.hi - r.lo) + 1)
def manyUp (n : Int) (es : List Ent) : Int := es.foldl (fun n e => mn (wr .i64 (n * size e.oz)) 2001) n
def checkSlate (S : Slate) : Int :=
  if decide (6 < S.women) || decide (6 < (S.es.length : Int)) || decide (5 < (S.ss.length : Int)) then 3
  else if decide (S.women < 0) || !allB (entOk S.women) S.es || !allB (sayOk S.women) S.ss then 1
  else if decide (2000 < manyUp 1 S.es) then 3 else 0

theorem l63 (es : List Ent) (hl : es.length < 1000000) (p : Nat) (q : Nat → Nat) : ∀ (k i : Nat) (n : Int) (N : Nat) (O : List AObj), i + k = es.length →
    ∃ l : List AObj, lim tbl (.loop a63_l0 63 ⟨[5, 47, 48, 49], [5], []⟩ [i64 n, sl cE es, i64 (Int.ofNat (lenOf es)), i64 (Int.ofNat i)]) ⟨N, O, p, q⟩ = some (.exit 1, [i64 (manyUp n (es.drop i))], ⟨N + l.length, l ++ O, p, q⟩) := by
  intro k
  induction k with
  | zero =>
    intro i n N O hi
    refine ⟨[], ?_⟩
    rw [List.drop_eq_nil_of_le (by omega)]
    rw [lim_loop]
    simp only [manyUp, List.foldl_nil, List.length_nil, Nat.add_zero, List.nil_append]
    (try simp only [go_sem, ↓reduceIte, Nat.reduceAdd, Nat.reduceEqDiff, Nat.reduceLT, Nat.reduceLeDiff, Nat.reduceBEq, Int.reduceEq, Int.reduceLT, Int.reduceLE]); rw [lt_no (by simp [lenOf]; omega)]; (try simp only [go_sem, ↓reduceIte, Nat.reduceAdd, Nat.reduceEqDiff, Nat.reduceLT, Nat.reduceLeDiff, Nat.reduceBEq, Int.reduceEq, Int.reduceLT, Int.reduceLE])
  | succ k ih =>
    intro i n N O hi
    have hlt : i < es.length := by omega
    obtain ⟨e, he, hd⟩ := getElem_drop hlt
    obtain ⟨a, b, ⟨lo, hi'⟩⟩ := e
    obtain ⟨l, hl'⟩ := ih (i + 1) (mn (wr .i64 (n * size ⟨lo, hi'⟩)) 2001) (na N 1) (.cells [i64 a, i64 b, i64 lo, i64 hi'] :: O) (by omega)
    refine ⟨l ++ [.cells [i64 a, i64 b, i64 lo, i64 hi']], ?_⟩
    rw [hd]
    have hm : manyUp n (⟨a, b, ⟨lo, hi'⟩⟩ :: es.drop (i + 1)) = manyUp (mn (wr .i64 (n * size ⟨lo, hi'⟩)) 2001) (es.drop (i + 1)) := rfl
    rw [hm]
    have hs : (⟨N + (l ++ [AObj.cells [i64 a, i64 b, i64 lo, i64 hi']]).length, (l ++ [.cells [i64 a, i64 b, i64 lo, i64 hi']]) ++ O, p, q⟩ : St) = ⟨na N 1 + l.length, l ++ (.cells [i64 a, i64 b, i64 lo, i64 hi'] :: O), p, q⟩ := by
      simp [na]; omega
    rw [hs, ← hl', lim_loop]
    generalize hR : lim tbl _ (_ : St) = R
    (try simp only [go_sem, ↓reduceIte, Nat.reduceAdd, Nat.reduceEqDiff, Nat.reduceLT, Nat.reduceLeDiff, Nat.reduceBEq, Int.reduceEq, Int.reduceLT, Int.reduceLE]); rw [lt_yes (by simpa [lenOf] using hlt)]; (try simp only [go_sem, ↓reduceIte, Nat.reduceAdd, Nat.reduceEqDiff, Nat.reduceLT, Nat.reduceLeDiff, Nat.reduceBEq, Int.reduceEq, Int.reduceLT, Int.reduceLE])
    rw [idxA_at (by simpa [lenOf] using hlt)]; (try simp only [go_sem, ↓reduceIte, Nat.reduceAdd, Nat.reduceEqDiff, Nat.reduceLT, Nat.reduceLeDiff, Nat.reduceBEq, Int.reduceEq, Int.reduceLT, Int.reduceLE])
    rw [drop_cE he]; (try simp only [go_sem, ↓reduceIte, Nat.reduceAdd, Nat.reduceEqDiff, Nat.reduceLT, Nat.reduceLeDiff, Nat.reduceBEq, Int.reduceEq, Int.reduceLT, Int.reduceLE])
    rw [wr_up (by omega), ← hR]
    rfl

theorem k63 (S : Slate) (s : St) : lim tbl (.call 63 [vSl S]) s = some (.ret, [i64 (checkSlate S)], s) := by
  rw [lim_call tbl_63]; obtain ⟨N, O, p, q⟩ := s; obtain ⟨w, es, ss⟩ := S
  generalize hR : checkSlate ⟨w, es, ss⟩ = R
  unfold checkSlate at hR
  simp only at hR
  by_cases h1 : 6 < w
  · (try simp only [go_sem, ↓reduceIte, Nat.reduceAdd, Nat.reduceEqDiff, Nat.reduceLT, Nat.reduceLeDiff, Nat.reduceBEq, Int.reduceEq, Int.reduceLT, Int.reduceLE]); rw [lt_y h1]; (try simp only [go_sem, ↓reduceIte, Nat.reduceAdd, Nat.reduceEqDiff, Nat.reduceLT, Nat.reduceLeDiff, Nat.reduceBEq, Int.reduceEq, Int.reduceLT, Int.reduceLE]); simp [h1] at hR; rw [← hR]
  by_cases h2 : (6 : Int) < Int.ofNat (lenOf es)
  · have h2' : (6 : Int) < es.length := h2
    (try simp only [go_sem, ↓reduceIte, Nat.reduceAdd, Nat.reduceEqDiff, Nat.reduceLT, Nat.reduceLeDiff, Nat.reduceBEq, Int.reduceEq, Int.reduceLT, Int.reduceLE]); rw [lt_n h1]; (try simp only [go_sem, ↓reduceIte, Nat.reduceAdd, Nat.reduceEqDiff, Nat.reduceLT, Nat.reduceLeDiff, Nat.reduceBEq, Int.reduceEq, Int.reduceLT, Int.reduceLE]); rw [lt_y h2]; (try simp only [go_sem, ↓reduceIte, Nat.reduceAdd, Nat.reduceEqDiff, Nat.reduceLT, Nat.reduceLeDiff, Nat.reduceBEq, Int.reduceEq, Int.reduceLT, Int.reduceLE]); simp [h2'] at hR; rw [← hR]
  have h2' : ¬ (6 : Int) < es.length := h2
  by_cases h3 : (5 : Int) < Int.ofNat (lenOf ss)
  · have h3' : (5 : Int) < ss.length := h3
    (try simp only [go_sem, ↓reduceIte, Nat.reduceAdd, Nat.reduceEqDiff, Nat.reduceLT, Nat.reduceLeDiff, Nat.reduceBEq, Int.reduceEq, Int.reduceLT, Int.reduceLE]); rw [lt_n h1]; (try simp only [go_sem, ↓reduceIte, Nat.reduceAdd, Nat.reduceEqDiff, Nat.reduceLT, Nat.reduceLeDiff, Nat.reduceBEq, Int.reduceEq, Int.reduceLT, Int.reduceLE]); rw [lt_n h2]; (try simp only [go_sem, ↓reduceIte, Nat.reduceAdd, Nat.reduceEqDiff, Nat.reduceLT, Nat.reduceLeDiff, Nat.reduceBEq, Int.reduceEq, Int.reduceLT, Int.reduceLE]); rw [lt_y h3]; (try simp only [go_sem, ↓reduceIte, Nat.reduceAdd, Nat.reduceEqDiff, Nat.reduceLT, Nat.reduceLeDiff, Nat.reduceBEq, Int.reduceEq, Int.reduceLT, Int.reduceLE]); simp [h3'] at hR; rw [← hR]
  have h3' : ¬ (5 : Int) < ss.length := h3
  by_cases h4 : w < 0
  · (try simp only [go_sem, ↓reduceIte, Nat.reduceAdd, Nat.reduceEqDiff, Nat.reduceLT, Nat.reduceLeDiff, Nat.reduceBEq, Int.reduceEq, Int.reduceLT, Int.reduceLE]); rw [lt_n h1]; (try simp only [go_sem, ↓reduceIte, Nat.reduceAdd, Nat.reduceEqDiff, Nat.reduceLT, Nat.reduceLeDiff, Nat.reduceBEq, Int.reduceEq, Int.reduceLT, Int.reduceLE]); rw [lt_n h2]; (try simp only [go_sem, ↓reduceIte, Nat.reduceAdd, Nat.reduceEqDiff, Nat.reduceLT, Nat.reduceLeDiff, Nat.reduceBEq, Int.reduceEq, Int.reduceLT, Int.reduceLE]); rw [lt_n h3]; (try simp only [go_sem, ↓reduceIte, Nat.reduceAdd, Nat.reduceEqDiff, Nat.reduceLT, Nat.reduceLeDiff, Nat.reduceBEq, Int.reduceEq, Int.reduceLT, Int.reduceLE]); rw [lt_y h4]; (try simp only [go_sem, ↓reduceIte, Nat.reduceAdd, Nat.reduceEqDiff, Nat.reduceLT, Nat.reduceLeDiff, Nat.reduceBEq, Int.reduceEq, Int.reduceLT, Int.reduceLE]); simp [h1, h2', h3', h4] at hR; rw [← hR]
  have hE := fun s => k99 (P := entOk w) (f := .func 97) (fa := [vSl ⟨w, es, ss⟩]) (fb := []) (by (try simp only [go_sem, ↓reduceIte, Nat.reduceAdd, Nat.reduceEqDiff, Nat.reduceLT, Nat.reduceLeDiff, Nat.reduceBEq, Int.reduceEq, Int.reduceLT, Int.reduceLE])) (by (try simp only [go_sem, ↓reduceIte, Nat.reduceAdd, Nat.reduceEqDiff, Nat.reduceLT, Nat.reduceLeDiff, Nat.reduceBEq, Int.reduceEq, Int.reduceLT, Int.reduceLE])) s es (by omega) (fun e _ => by obtain ⟨a, b, ⟨lo, hi⟩⟩ := e; (try simp only [go_sem, ↓reduceIte, Nat.reduceAdd, Nat.reduceEqDiff, Nat.reduceLT, Nat.reduceLeDiff, Nat.reduceBEq, Int.reduceEq, Int.reduceLT, Int.reduceLE]))
  have hS := fun s => k100 (P := sayOk w) (f := .func 98) (fa := [vSl ⟨w, es, ss⟩]) (fb := []) (by (try simp only [go_sem, ↓reduceIte, Nat.reduceAdd, Nat.reduceEqDiff, Nat.reduceLT, Nat.reduceLeDiff, Nat.reduceBEq, Int.reduceEq, Int.reduceLT, Int.reduceLE])) (by (try simp only [go_sem, ↓reduceIte, Nat.reduceAdd, Nat.reduceEqDiff, Nat.reduceLT, Nat.reduceLeDiff, Nat.reduceBEq, Int.reduceEq, Int.reduceLT, Int.reduceLE])) s ss (by omega) (fun e _ => by obtain ⟨a, ⟨lo, hi⟩⟩ := e; (try simp only [go_sem, ↓reduceIte, Nat.reduceAdd, Nat.reduceEqDiff, Nat.reduceLT, Nat.reduceLeDiff, Nat.reduceBEq, Int.reduceEq, Int.reduceLT, Int.reduceLE]))
  obtain ⟨M, Q, hL, hO⟩ : ∃ M Q, lim tbl (.loop a63_l0 63 ⟨[5, 47, 48, 49], [5], []⟩ [i64 1, sl cE es, i64 (Int.ofNat (lenOf es)), i64 (Int.ofNat 0)]) ⟨N, O, p, q⟩ = some (.exit 1, [i64 (manyUp 1 (es.drop 0))], ⟨M, Q, p, q⟩) ∧ old ⟨N, O, p, q⟩ ⟨M, Q, p, q⟩ = true := by
    obtain ⟨l, hL⟩ := l63 es (by omega) p q es.length 0 1 N O (by omega)
    exact ⟨_, _, hL, old_of rfl⟩
  (try simp only [go_sem, ↓reduceIte, Nat.reduceAdd, Nat.reduceEqDiff, Nat.reduceLT, Nat.reduceLeDiff, Nat.reduceBEq, Int.reduceEq, Int.reduceLT, Int.reduceLE]); rw [lt_n h1]; (try simp only [go_sem, ↓reduceIte, Nat.reduceAdd, Nat.reduceEqDiff, Nat.reduceLT, Nat.reduceLeDiff, Nat.reduceBEq, Int.reduceEq, Int.reduceLT, Int.reduceLE]); rw [lt_n h2]; (try simp only [go_sem, ↓reduceIte, Nat.reduceAdd, Nat.reduceEqDiff, Nat.reduceLT, Nat.reduceLeDiff, Nat.reduceBEq, Int.reduceEq, Int.reduceLT, Int.reduceLE]); rw [lt_n h3]; (try simp only [go_sem, ↓reduceIte, Nat.reduceAdd, Nat.reduceEqDiff, Nat.reduceLT, Nat.reduceLeDiff, Nat.reduceBEq, Int.reduceEq, Int.reduceLT, Int.reduceLE]); rw [lt_n h4]; (try simp only [go_sem, ↓reduceIte, Nat.reduceAdd, Nat.reduceEqDiff, Nat.reduceLT, Nat.reduceLeDiff, Nat.reduceBEq, Int.reduceEq, Int.reduceLT, Int.reduceLE])
  simp only [hE]
  cases hA : allB (entOk w) es with
  | false => (try simp only [go_sem, ↓reduceIte, Nat.reduceAdd, Nat.reduceEqDiff, Nat.reduceLT, Nat.reduceLeDiff, Nat.reduceBEq, Int.reduceEq, Int.reduceLT, Int.reduceLE]); simp [h1, h2', h3', h4, hA] at hR; rw [← hR]
  | true =>
  (try simp only [go_sem, ↓reduceIte, Nat.reduceAdd, Nat.reduceEqDiff, Nat.reduceLT, Nat.reduceLeDiff, Nat.reduceBEq, Int.reduceEq, Int.reduceLT, Int.reduceLE])
  simp only [hS]
  cases hB : allB (sayOk w) ss with
  | false => (try simp only [go_sem, ↓reduceIte, Nat.reduceAdd, Nat.reduceEqDiff, Nat.reduceLT, Nat.reduceLeDiff, Nat.reduceBEq, Int.reduceEq, Int.reduceLT, Int.reduceLE]); simp [h1, h2', h3', h4, hA, hB] at hR; rw [← hR]
  | true =>
  (try simp only [go_sem, ↓reduceIte, Nat.reduceAdd, Nat.reduceEqDiff, Nat.reduceLT, Nat.reduceLeDiff, Nat.reduceBEq, Int.reduceEq, Int.reduceLT, Int.reduceLE])
  rw [show (0 : Int) = Int.ofNat 0 from rfl, hL, List.drop_zero]; (try simp only [go_sem, ↓reduceIte, Nat.reduceAdd, Nat.reduceEqDiff, Nat.reduceLT, Nat.reduceLeDiff, Nat.reduceBEq, Int.reduceEq, Int.reduceLT, Int.reduceLE])
  simp only [h1, h2', h3', h4, hA, hB, decide_false, Bool.or_self, Bool.not_true, if_false, Bool.false_eq_true] at hR
  by_cases h5 : 2000 < manyUp 1 es
  · rw [lt_y h5]; (try simp only [go_sem, ↓reduceIte, Nat.reduceAdd, Nat.reduceEqDiff, Nat.reduceLT, Nat.reduceLeDiff, Nat.reduceBEq, Int.reduceEq, Int.reduceLT, Int.reduceLE])
    rw [hO]; (try simp only [go_sem, ↓reduceIte, Nat.reduceAdd, Nat.reduceEqDiff, Nat.reduceLT, Nat.reduceLeDiff, Nat.reduceBEq, Int.reduceEq, Int.reduceLT, Int.reduceLE])
    simp [h5] at hR; rw [← hR]
  · rw [lt_n h5]; (try simp only [go_sem, ↓reduceIte, Nat.reduceAdd, Nat.reduceEqDiff, Nat.reduceLT, Nat.reduceLeDiff, Nat.reduceBEq, Int.reduceEq, Int.reduceLT, Int.reduceLE])
    rw [hO]; (try simp only [go_sem, ↓reduceIte, Nat.reduceAdd, Nat.reduceEqDiff, Nat.reduceLT, Nat.reduceLeDiff, Nat.reduceBEq, Int.reduceEq, Int.reduceLT, Int.reduceLE])
    simp [h5] at hR; rw [← hR]

end Go.Proofs.Ytlhfeiacigmliaa

/- The wash-house's soap: what the functions compute: the document's side. -/
namespace Go.Proofs.Ytlhfeiacigmliaa
open Go
set_option maxRecDepth 10000

@[go_sem] theorem k54 (s : St) (n lo hi : Int) : lim tbl (.call 54 [i64 n, i64 lo, i64 hi]) s = some (.ret, [.bool (within n lo hi)], s) := by
  rw [lim_call tbl_54]; obtain ⟨N, O, p, q⟩ := s
  generalize hR : within n lo hi = R
  unfold within at hR
  by_cases h : lo ≤ n
  · by_cases h' : n ≤ hi
    · (try simp only [go_sem, ↓reduceIte, Nat.reduceAdd, Nat.reduceEqDiff, Nat.reduceLT, Nat.reduceLeDiff, Nat.reduceBEq, Int.reduceEq, Int.reduceLT, Int.reduceLE]); rw [le_y h]; (try simp only [go_sem, ↓reduceIte, Nat.reduceAdd, Nat.reduceEqDiff, Nat.reduceLT, Nat.reduceLeDiff, Nat.reduceBEq, Int.reduceEq, Int.reduceLT, Int.reduceLE]); rw [le_y h']; (try simp only [go_sem, ↓reduceIte, Nat.reduceAdd, Nat.reduceEqDiff, Nat.reduceLT, Nat.reduceLeDiff, Nat.reduceBEq, Int.reduceEq, Int.reduceLT, Int.reduceLE]); simp [h, h'] at hR; rw [← hR]
    · (try simp only [go_sem, ↓reduceIte, Nat.reduceAdd, Nat.reduceEqDiff, Nat.reduceLT, Nat.reduceLeDiff, Nat.reduceBEq, Int.reduceEq, Int.reduceLT, Int.reduceLE]); rw [le_y h]; (try simp only [go_sem, ↓reduceIte, Nat.reduceAdd, Nat.reduceEqDiff, Nat.reduceLT, Nat.reduceLeDiff, Nat.reduceBEq, Int.reduceEq, Int.reduceLT, Int.reduceLE]); rw [le_n h']; (try simp only [go_sem, ↓reduceIte, Nat.reduceAdd, Nat.reduceEqDiff, Nat.reduceLT, Nat.reduceLeDiff, Nat.reduceBEq, Int.reduceEq, Int.reduceLT, Int.reduceLE]); simp [h'] at hR; rw [← hR]
  · (try simp only [go_sem, ↓reduceIte, Nat.reduceAdd, Nat.reduceEqDiff, Nat.reduceLT, Nat.reduceLeDiff, Nat.reduceBEq, Int.reduceEq, Int.reduceLT, Int.reduceLE]); rw [le_n h]; (try simp only [go_sem, ↓reduceIte, Nat.reduceAdd, Nat.reduceEqDiff, Nat.reduceLT, Nat.reduceLeDiff, Nat.reduceBEq, Int.reduceEq, Int.reduceLT, Int.reduceLE]); simp [h] at hR; rw [← hR]
@[go_sem] theorem k82 (s : St) (n lo hi : Int) : lim tbl (.call 82 [i64 n, .agg [i64 lo, i64 hi]]) s = some (.ret, [.bool (within n lo hi)], s) := by
  rw [lim_call tbl_82]; obtain ⟨N, O, p, q⟩ := s
  (try simp only [go_sem, ↓reduceIte, Nat.reduceAdd, Nat.reduceEqDiff, Nat.reduceLT, Nat.reduceLeDiff, Nat.reduceBEq, Int.reduceEq, Int.reduceLT, Int.reduceLE])
@[go_sem] theorem k90 (s : St) (lo hi : Int) : lim tbl (.call 90 [.agg [i64 lo, i64 hi]]) s = some (.ret, [i64 (size ⟨lo, hi⟩)], s) := by
  rw [lim_call tbl_90]; obtain ⟨N, O, p, q⟩ := s
  (try simp only [go_sem, ↓reduceIte, Nat.reduceAdd, Nat.reduceEqDiff, Nat.reduceLT, Nat.reduceLeDiff, Nat.reduceBEq, Int.reduceEq, Int.reduceLT, Int.reduceLE])
  rfl
@[go_sem] theorem k92 (s : St) (w a b : Int) (es : List Ent) (ss : List Say) : lim tbl (.call 92 [.agg [i64 w, sl cE es, sl cS ss], i64 a, i64 b]) s = some (.ret, [.bool (pair w a b)], s) := by
  rw [lim_call tbl_92]; obtain ⟨N, O, p, q⟩ := s
  generalize hR : pair w a b = R
  unfold pair woman at hR
  cases h : within a 0 (wr .i64 (w - 1)) <;> cases h' : within b 0 (wr .i64 (w - 1))
  all_goals (rw [h, h'] at hR; simp at hR; rw [← fold_sub] at h h')
  all_goals ((try simp only [go_sem, ↓reduceIte, Nat.reduceAdd, Nat.reduceEqDiff, Nat.reduceLT, Nat.reduceLeDiff, Nat.reduceBEq, Int.reduceEq, Int.reduceLT, Int.reduceLE]); repeat (simp only [h, h']; (try simp only [go_sem, ↓reduceIte, Nat.reduceAdd, Nat.reduceEqDiff, Nat.reduceLT, Nat.reduceLeDiff, Nat.reduceBEq, Int.reduceEq, Int.reduceLT, Int.reduceLE])))
  all_goals first | rw [← hR] | (cases hd : decide (a = b) <;> rw [hd] at hR <;> cases R <;> first | rfl | cases hR)
def manyRef (n : Int) (es : List Ent) : Int := es.foldl (fun n e => mn 3000 (wr .i64 (n * size e.oz))) n
theorem l51 (W : AVal) (ss : List Say) (es : List Ent) (hl : es.length < 1000000) (s : St) : ∀ (k i : Nat) (n : Int), i + k = es.length → ∀ R, R = some (.exit 0, [i64 (manyRef n (es.drop i))], s) →
   lim tbl (.loop a51_l0 23 ⟨[1, 3, 4], [3], []⟩ [.vref [W, sl cE es, sl cS ss], i64 n, i64 (Int.ofNat i)]) s = R := by
  intro k
  induction k with
  | zero =>
    intro i n hi R hR
    obtain ⟨N, O, p, q⟩ := s
    rw [List.drop_eq_nil_of_le (by omega)] at hR
    rw [lim_loop]
    (try simp only [go_sem, ↓reduceIte, Nat.reduceAdd, Nat.reduceEqDiff, Nat.reduceLT, Nat.reduceLeDiff, Nat.reduceBEq, Int.reduceEq, Int.reduceLT, Int.reduceLE]); rw [lt_no (by simp [lenOf]; omega)]; (try simp only [go_sem, ↓reduceIte, Nat.reduceAdd, Nat.reduceEqDiff, Nat.reduceLT, Nat.reduceLeDiff, Nat.reduceBEq, Int.reduceEq, Int.reduceLT, Int.reduceLE]); exact hR.symm
  | succ k ih =>
    intro i n hi R hR
    obtain ⟨N, O, p, q⟩ := s
    have hlt : i < es.length := by omega
    obtain ⟨e, he, hd⟩ := getElem_drop hlt
    obtain ⟨a, b, ⟨lo, hi'⟩⟩ := e
    rw [hd] at hR
    rw [lim_loop]
    (try simp only [go_sem, ↓reduceIte, Nat.reduceAdd, Nat.reduceEqDiff, Nat.reduceLT, Nat.reduceLeDiff, Nat.reduceBEq, Int.reduceEq, Int.reduceLT, Int.reduceLE]); rw [lt_yes (by simpa [lenOf] using hlt)]; (try simp only [go_sem, ↓reduceIte, Nat.reduceAdd, Nat.reduceEqDiff, Nat.reduceLT, Nat.reduceLeDiff, Nat.reduceBEq, Int.reduceEq, Int.reduceLT, Int.reduceLE])
    rw [idxA_at (by simpa [lenOf] using hlt)]; (try simp only [go_sem, ↓reduceIte, Nat.reduceAdd, Nat.reduceEqDiff, Nat.reduceLT, Nat.reduceLeDiff, Nat.reduceBEq, Int.reduceEq, Int.reduceLT, Int.reduceLE])
    rw [drop_cE he]; (try simp only [go_sem, ↓reduceIte, Nat.reduceAdd, Nat.reduceEqDiff, Nat.reduceLT, Nat.reduceLeDiff, Nat.reduceBEq, Int.reduceEq, Int.reduceLT, Int.reduceLE])
    rw [wr_up (by omega)]
    exact ih (i + 1) _ (by omega) R hR
theorem k51 (S : Slate) (hl : S.es.length < 1000000) (s : St) : lim tbl (.call 51 [vSl S]) s = some (.ret, [i64 (manyRef 1 S.es)], s) := by
  obtain ⟨w, es, ss⟩ := S
  have h := l51 (i64 w) ss es hl s es.length 0 1 (by omega) _ rfl
  rw [List.drop_zero] at h
  rw [lim_call tbl_51]; obtain ⟨N, O, p, q⟩ := s
  (try simp only [go_sem, ↓reduceIte, Nat.reduceAdd, Nat.reduceEqDiff, Nat.reduceLT, Nat.reduceLeDiff, Nat.reduceBEq, Int.reduceEq, Int.reduceLT, Int.reduceLE])
  rw [show (0 : Int) = Int.ofNat 0 from rfl, h]; (try simp only [go_sem, ↓reduceIte, Nat.reduceAdd, Nat.reduceEqDiff, Nat.reduceLT, Nat.reduceLeDiff, Nat.reduceBEq, Int.reduceEq, Int.reduceLT, Int.reduceLE])
theorem grown1 (N : Nat) (o : AObj) (l O : List AObj) (p : Nat) (q : Nat → Nat) : (⟨na N 1 + l.length, l ++ o :: O, p, q⟩ : St) = ⟨N + (l ++ [o]).length, (l ++ [o]) ++ O, p, q⟩ := by
  simp [na]; omega
theorem entOk_eq (w a b lo hi : Int) : entOk w ⟨a, b, ⟨lo, hi⟩⟩ = (pair w a b && (!decide (lo < 0) && (!decide (hi < lo) && !decide (40 < hi)))) := by
  unfold entOk between
  by_cases h1 : lo < 0 <;> by_cases h2 : hi < lo <;> by_cases h3 : 40 < hi <;> simp [h1, h2, h3] <;> omega
theorem l73_0 (w : Int) (ss : List Say) (es : List Ent) (hl : es.length < 1000000) (p : Nat) (q : Nat → Nat) : ∀ (k i : Nat) (N : Nat) (O : List AObj), i + k = es.length →
   ∃ l : List AObj, ∀ R, R = (if allB (entOk w) (es.drop i) then some (.exit 0, [.vref [i64 w, sl cE es, sl cS ss]], ⟨N + l.length, l ++ O, p, q⟩) else some (.ret, [i64 1], ⟨N + l.length, l ++ O, p, q⟩)) →
   lim tbl (.loop a73_l0 108 ⟨[1, 3], [1], [2]⟩ [.vref [i64 w, sl cE es, sl cS ss], i64 (Int.ofNat i)]) ⟨N, O, p, q⟩ = R := by
  intro k
  induction k with
  | zero =>
    intro i N O hi
    refine ⟨[], fun R hR => ?_⟩
    rw [List.drop_eq_nil_of_le (by omega)] at hR
    simp only [allB, List.all_nil, if_true, List.length_nil, Nat.add_zero, List.nil_append] at hR
    rw [lim_loop]
    (try simp only [go_sem, ↓reduceIte, Nat.reduceAdd, Nat.reduceEqDiff, Nat.reduceLT, Nat.reduceLeDiff, Nat.reduceBEq, Int.reduceEq, Int.reduceLT, Int.reduceLE]); rw [lt_no (by simp [lenOf]; omega)]; (try simp only [go_sem, ↓reduceIte, Nat.reduceAdd, Nat.reduceEqDiff, Nat.reduceLT, Nat.reduceLeDiff, Nat.reduceBEq, Int.reduceEq, Int.reduceLT, Int.reduceLE]); exact hR.symm
  | succ k ih =>
    intro i N O hi
    have hlt : i < es.length := by omega
    obtain ⟨e, he, hd⟩ := getElem_drop hlt
    obtain ⟨a, b, ⟨lo, hi'⟩⟩ := e
    obtain ⟨l, hl'⟩ := ih (i + 1) (na N 1) (.cells [i64 a, i64 b, i64 lo, i64 hi'] :: O) (by omega)
    rw [hd]
    have hc : allB (entOk w) (⟨a, b, ⟨lo, hi'⟩⟩ :: es.drop (i + 1)) = (entOk w ⟨a, b, ⟨lo, hi'⟩⟩ && allB (entOk w) (es.drop (i + 1))) := rfl
    rw [hc, entOk_eq]
    cases h1 : pair w a b with
    | false =>
      refine ⟨[.cells [i64 a, i64 b, i64 lo, i64 hi']], fun R hR => ?_⟩
      simp at hR
      rw [lim_loop]
      (try simp only [go_sem, ↓reduceIte, Nat.reduceAdd, Nat.reduceEqDiff, Nat.reduceLT, Nat.reduceLeDiff, Nat.reduceBEq, Int.reduceEq, Int.reduceLT, Int.reduceLE]); rw [lt_yes (by simpa [lenOf] using hlt)]; (try simp only [go_sem, ↓reduceIte, Nat.reduceAdd, Nat.reduceEqDiff, Nat.reduceLT, Nat.reduceLeDiff, Nat.reduceBEq, Int.reduceEq, Int.reduceLT, Int.reduceLE])
      rw [idxA_at (by simpa [lenOf] using hlt)]; (try simp only [go_sem, ↓reduceIte, Nat.reduceAdd, Nat.reduceEqDiff, Nat.reduceLT, Nat.reduceLeDiff, Nat.reduceBEq, Int.reduceEq, Int.reduceLT, Int.reduceLE])
      rw [drop_cE he]; (try simp only [go_sem, ↓reduceIte, Nat.reduceAdd, Nat.reduceEqDiff, Nat.reduceLT, Nat.reduceLeDiff, Nat.reduceBEq, Int.reduceEq, Int.reduceLT, Int.reduceLE]); simp only [h1]; (try simp only [go_sem, ↓reduceIte, Nat.reduceAdd, Nat.reduceEqDiff, Nat.reduceLT, Nat.reduceLeDiff, Nat.reduceBEq, Int.reduceEq, Int.reduceLT, Int.reduceLE]); exact hR.symm
    | true =>
    by_cases h2 : lo < 0
    · refine ⟨[.cells [i64 a, i64 b, i64 lo, i64 hi']], fun R hR => ?_⟩
      simp [h2] at hR
      rw [lim_loop]
      (try simp only [go_sem, ↓reduceIte, Nat.reduceAdd, Nat.reduceEqDiff, Nat.reduceLT, Nat.reduceLeDiff, Nat.reduceBEq, Int.reduceEq, Int.reduceLT, Int.reduceLE]); rw [lt_yes (by simpa [lenOf] using hlt)]; (try simp only [go_sem, ↓reduceIte, Nat.reduceAdd, Nat.reduceEqDiff, Nat.reduceLT, Nat.reduceLeDiff, Nat.reduceBEq, Int.reduceEq, Int.reduceLT, Int.reduceLE])
      rw [idxA_at (by simpa [lenOf] using hlt)]; (try simp only [go_sem, ↓reduceIte, Nat.reduceAdd, Nat.reduceEqDiff, Nat.reduceLT, Nat.reduceLeDiff, Nat.reduceBEq, Int.reduceEq, Int.reduceLT, Int.reduceLE])
      rw [drop_cE he]; (try simp only [go_sem, ↓reduceIte, Nat.reduceAdd, Nat.reduceEqDiff, Nat.reduceLT, Nat.reduceLeDiff, Nat.reduceBEq, Int.reduceEq, Int.reduceLT, Int.reduceLE]); simp only [h1]; (try simp only [go_sem, ↓reduceIte, Nat.reduceAdd, Nat.reduceEqDiff, Nat.reduceLT, Nat.reduceLeDiff, Nat.reduceBEq, Int.reduceEq, Int.reduceLT, Int.reduceLE]); rw [lt_y h2]; (try simp only [go_sem, ↓reduceIte, Nat.reduceAdd, Nat.reduceEqDiff, Nat.reduceLT, Nat.reduceLeDiff, Nat.reduceBEq, Int.reduceEq, Int.reduceLT, Int.reduceLE]); exact hR.symm
    by_cases h3 : hi' < lo
    · refine ⟨[.cells [i64 a, i64 b, i64 lo, i64 hi']], fun R hR => ?_⟩
      simp [h3] at hR
      rw [lim_loop]
      (try simp only [go_sem, ↓reduceIte, Nat.reduceAdd, Nat.reduceEqDiff, Nat.reduceLT, Nat.reduceLeDiff, Nat.reduceBEq, Int.reduceEq, Int.reduceLT, Int.reduceLE]); rw [lt_yes (by simpa [lenOf] using hlt)]; (try simp only [go_sem, ↓reduceIte, Nat.reduceAdd, Nat.reduceEqDiff, Nat.reduceLT, Nat.reduceLeDiff, Nat.reduceBEq, Int.reduceEq, Int.reduceLT, Int.reduceLE])
      rw [idxA_at (by simpa [lenOf] using hlt)]; (try simp only [go_sem, ↓reduceIte, Nat.reduceAdd, Nat.reduceEqDiff, Nat.reduceLT, Nat.reduceLeDiff, Nat.reduceBEq, Int.reduceEq, Int.reduceLT, Int.reduceLE])
      rw [drop_cE he]; (try simp only [go_sem, ↓reduceIte, Nat.reduceAdd, Nat.reduceEqDiff, Nat.reduceLT, Nat.reduceLeDiff, Nat.reduceBEq, Int.reduceEq, Int.reduceLT, Int.reduceLE]); simp only [h1]; (try simp only [go_sem, ↓reduceIte, Nat.reduceAdd, Nat.reduceEqDiff, Nat.reduceLT, Nat.reduceLeDiff, Nat.reduceBEq, Int.reduceEq, Int.reduceLT, Int.reduceLE]); rw [lt_n h2]; (try simp only [go_sem, ↓reduceIte, Nat.reduceAdd, Nat.reduceEqDiff, Nat.reduceLT, Nat.reduceLeDiff, Nat.reduceBEq, Int.reduceEq, Int.reduceLT, Int.reduceLE]); rw [lt_y h3]; (try simp only [go_sem, ↓reduceIte, Nat.reduceAdd, Nat.reduceEqDiff, Nat.reduceLT, Nat.reduceLeDiff, Nat.reduceBEq, Int.reduceEq, Int.reduceLT, Int.reduceLE]); exact hR.symm
    by_cases h4 : 40 < hi'
    · refine ⟨[.cells [i64 a, i64 b, i64 lo, i64 hi']], fun R hR => ?_⟩
      simp [h4] at hR
      rw [lim_loop]
      (try simp only [go_sem, ↓reduceIte, Nat.reduceAdd, Nat.reduceEqDiff, Nat.reduceLT, Nat.reduceLeDiff, Nat.reduceBEq, Int.reduceEq, Int.reduceLT, Int.reduceLE]); rw [lt_yes (by simpa [lenOf] using hlt)]; (try simp only [go_sem, ↓reduceIte, Nat.reduceAdd, Nat.reduceEqDiff, Nat.reduceLT, Nat.reduceLeDiff, Nat.reduceBEq, Int.reduceEq, Int.reduceLT, Int.reduceLE])
      rw [idxA_at (by simpa [lenOf] using hlt)]; (try simp only [go_sem, ↓reduceIte, Nat.reduceAdd, Nat.reduceEqDiff, Nat.reduceLT, Nat.reduceLeDiff, Nat.reduceBEq, Int.reduceEq, Int.reduceLT, Int.reduceLE])
      rw [drop_cE he]; (try simp only [go_sem, ↓reduceIte, Nat.reduceAdd, Nat.reduceEqDiff, Nat.reduceLT, Nat.reduceLeDiff, Nat.reduceBEq, Int.reduceEq, Int.reduceLT, Int.reduceLE]); simp only [h1]; (try simp only [go_sem, ↓reduceIte, Nat.reduceAdd, Nat.reduceEqDiff, Nat.reduceLT, Nat.reduceLeDiff, Nat.reduceBEq, Int.reduceEq, Int.reduceLT, Int.reduceLE]); rw [lt_n h2]; (try simp only [go_sem, ↓reduceIte, Nat.reduceAdd, Nat.reduceEqDiff, Nat.reduceLT, Nat.reduceLeDiff, Nat.reduceBEq, Int.reduceEq, Int.reduceLT, Int.reduceLE]); rw [lt_n h3]; (try simp only [go_sem, ↓reduceIte, Nat.reduceAdd, Nat.reduceEqDiff, Nat.reduceLT, Nat.reduceLeDiff, Nat.reduceBEq, Int.reduceEq, Int.reduceLT, Int.reduceLE]); rw [lt_y h4]; (try simp only [go_sem, ↓reduceIte, Nat.reduceAdd, Nat.reduceEqDiff, Nat.reduceLT, Nat.reduceLeDiff, Nat.reduceBEq, Int.reduceEq, Int.reduceLT, Int.reduceLE]); exact hR.symm
    refine ⟨l ++ [.cells [i64 a, i64 b, i64 lo, i64 hi']], fun R hR => ?_⟩
    simp only [h2, h3, h4, decide_false, Bool.not_false, Bool.true_and] at hR
    rw [← grown1] at hR
    have := hl' R hR
    rw [lim_loop]
    (try simp only [go_sem, ↓reduceIte, Nat.reduceAdd, Nat.reduceEqDiff, Nat.reduceLT, Nat.reduceLeDiff, Nat.reduceBEq, Int.reduceEq, Int.reduceLT, Int.reduceLE]); rw [lt_yes (by simpa [lenOf] using hlt)]; (try simp only [go_sem, ↓reduceIte, Nat.reduceAdd, Nat.reduceEqDiff, Nat.reduceLT, Nat.reduceLeDiff, Nat.reduceBEq, Int.reduceEq, Int.reduceLT, Int.reduceLE])
    rw [idxA_at (by simpa [lenOf] using hlt)]; (try simp only [go_sem, ↓reduceIte, Nat.reduceAdd, Nat.reduceEqDiff, Nat.reduceLT, Nat.reduceLeDiff, Nat.reduceBEq, Int.reduceEq, Int.reduceLT, Int.reduceLE])
    rw [drop_cE he]; (try simp only [go_sem, ↓reduceIte, Nat.reduceAdd, Nat.reduceEqDiff, Nat.reduceLT, Nat.reduceLeDiff, Nat.reduceBEq, Int.reduceEq, Int.reduceLT, Int.reduceLE]); simp only [h1]; (try simp only [go_sem, ↓reduceIte, Nat.reduceAdd, Nat.reduceEqDiff, Nat.reduceLT, Nat.reduceLeDiff, Nat.reduceBEq, Int.reduceEq, Int.reduceLT, Int.reduceLE]); rw [lt_n h2]; (try simp only [go_sem, ↓reduceIte, Nat.reduceAdd, Nat.reduceEqDiff, Nat.reduceLT, Nat.reduceLeDiff, Nat.reduceBEq, Int.reduceEq, Int.reduceLT, Int.reduceLE]); rw [lt_n h3]; (try simp only [go_sem, ↓reduceIte, Nat.reduceAdd, Nat.reduceEqDiff, Nat.reduceLT, Nat.reduceLeDiff, Nat.reduceBEq, Int.reduceEq, Int.reduceLT, Int.reduceLE]); rw [lt_n h4]; (try simp only [go_sem, ↓reduceIte, Nat.reduceAdd, Nat.reduceEqDiff, Nat.reduceLT, Nat.reduceLeDiff, Nat.reduceBEq, Int.reduceEq, Int.reduceLT, Int.reduceLE])
    rw [wr_up (by omega)]
    exact this
theorem sayOk_eq (w a lo hi : Int) : sayOk w ⟨a, ⟨lo, hi⟩⟩ = (within a 0 (wr .i64 (w - 1)) && (!decide (lo < -240) && (!decide (hi < lo) && !decide (240 < hi)))) := by
  unfold sayOk between woman
  by_cases h1 : lo < -240 <;> by_cases h2 : hi < lo <;> by_cases h3 : 240 < hi <;> simp [h1, h2, h3] <;> omega
theorem l73_1 (w : Int) (es : List Ent) (ss : List Say) (hl : ss.length < 1000000) (p : Nat) (q : Nat → Nat) : ∀ (k i : Nat) (N : Nat) (O : List AObj), i + k = ss.length →
   ∃ l : List AObj, ∀ R, R = (if allB (sayOk w) (ss.drop i) then some (.exit 2, [.vref [i64 w, sl cE es, sl cS ss]], ⟨N + l.length, l ++ O, p, q⟩) else some (.ret, [i64 1], ⟨N + l.length, l ++ O, p, q⟩)) →
   lim tbl (.loop a73_l1 108 ⟨[1, 5], [1], [2]⟩ [.vref [i64 w, sl cE es, sl cS ss], i64 (Int.ofNat i)]) ⟨N, O, p, q⟩ = R := by
  intro k
  induction k with
  | zero =>
    intro i N O hi
    refine ⟨[], fun R hR => ?_⟩
    rw [List.drop_eq_nil_of_le (by omega)] at hR
    simp only [allB, List.all_nil, if_true, List.length_nil, Nat.add_zero, List.nil_append] at hR
    rw [lim_loop]
    (try simp only [go_sem, ↓reduceIte, Nat.reduceAdd, Nat.reduceEqDiff, Nat.reduceLT, Nat.reduceLeDiff, Nat.reduceBEq, Int.reduceEq, Int.reduceLT, Int.reduceLE]); rw [lt_no (by simp [lenOf]; omega)]; (try simp only [go_sem, ↓reduceIte, Nat.reduceAdd, Nat.reduceEqDiff, Nat.reduceLT, Nat.reduceLeDiff, Nat.reduceBEq, Int.reduceEq, Int.reduceLT, Int.reduceLE]); exact hR.symm
  | succ k ih =>
    intro i N O hi
    have hlt : i < ss.length := by omega
    obtain ⟨e, he, hd⟩ := getElem_drop hlt
    obtain ⟨a, ⟨lo, hi'⟩⟩ := e
    obtain ⟨l, hl'⟩ := ih (i + 1) (na N 1) (.cells [i64 a, i64 lo, i64 hi'] :: O) (by omega)
    rw [hd]
    have hc : allB (sayOk w) (⟨a, ⟨lo, hi'⟩⟩ :: ss.drop (i + 1)) = (sayOk w ⟨a, ⟨lo, hi'⟩⟩ && allB (sayOk w) (ss.drop (i + 1))) := rfl
    rw [hc, sayOk_eq, ← fold_sub]
    cases h1 : within a 0 (wr .i64 (Int.sub w 1)) with
    | false =>
      refine ⟨[.cells [i64 a, i64 lo, i64 hi']], fun R hR => ?_⟩
      simp at hR
      rw [lim_loop]
      (try simp only [go_sem, ↓reduceIte, Nat.reduceAdd, Nat.reduceEqDiff, Nat.reduceLT, Nat.reduceLeDiff, Nat.reduceBEq, Int.reduceEq, Int.reduceLT, Int.reduceLE]); rw [lt_yes (by simpa [lenOf] using hlt)]; (try simp only [go_sem, ↓reduceIte, Nat.reduceAdd, Nat.reduceEqDiff, Nat.reduceLT, Nat.reduceLeDiff, Nat.reduceBEq, Int.reduceEq, Int.reduceLT, Int.reduceLE])
      rw [idxA_at (by simpa [lenOf] using hlt)]; (try simp only [go_sem, ↓reduceIte, Nat.reduceAdd, Nat.reduceEqDiff, Nat.reduceLT, Nat.reduceLeDiff, Nat.reduceBEq, Int.reduceEq, Int.reduceLT, Int.reduceLE])
      rw [drop_cS he]; (try simp only [go_sem, ↓reduceIte, Nat.reduceAdd, Nat.reduceEqDiff, Nat.reduceLT, Nat.reduceLeDiff, Nat.reduceBEq, Int.reduceEq, Int.reduceLT, Int.reduceLE]); simp only [h1]; (try simp only [go_sem, ↓reduceIte, Nat.reduceAdd, Nat.reduceEqDiff, Nat.reduceLT, Nat.reduceLeDiff, Nat.reduceBEq, Int.reduceEq, Int.reduceLT, Int.reduceLE]); exact hR.symm
    | true =>
    by_cases h2 : lo < -240
    · refine ⟨[.cells [i64 a, i64 lo, i64 hi']], fun R hR => ?_⟩
      simp [h2] at hR
      rw [lim_loop]
      (try simp only [go_sem, ↓reduceIte, Nat.reduceAdd, Nat.reduceEqDiff, Nat.reduceLT, Nat.reduceLeDiff, Nat.reduceBEq, Int.reduceEq, Int.reduceLT, Int.reduceLE]); rw [lt_yes (by simpa [lenOf] using hlt)]; (try simp only [go_sem, ↓reduceIte, Nat.reduceAdd, Nat.reduceEqDiff, Nat.reduceLT, Nat.reduceLeDiff, Nat.reduceBEq, Int.reduceEq, Int.reduceLT, Int.reduceLE])
      rw [idxA_at (by simpa [lenOf] using hlt)]; (try simp only [go_sem, ↓reduceIte, Nat.reduceAdd, Nat.reduceEqDiff, Nat.reduceLT, Nat.reduceLeDiff, Nat.reduceBEq, Int.reduceEq, Int.reduceLT, Int.reduceLE])
      rw [drop_cS he]; (try simp only [go_sem, ↓reduceIte, Nat.reduceAdd, Nat.reduceEqDiff, Nat.reduceLT, Nat.reduceLeDiff, Nat.reduceBEq, Int.reduceEq, Int.reduceLT, Int.reduceLE]); simp only [h1]; (try simp only [go_sem, ↓reduceIte, Nat.reduceAdd, Nat.reduceEqDiff, Nat.reduceLT, Nat.reduceLeDiff, Nat.reduceBEq, Int.reduceEq, Int.reduceLT, Int.reduceLE]); rw [lt_y h2]; (try simp only [go_sem, ↓reduceIte, Nat.reduceAdd, Nat.reduceEqDiff, Nat.reduceLT, Nat.reduceLeDiff, Nat.reduceBEq, Int.reduceEq, Int.reduceLT, Int.reduceLE]); exact hR.symm
    by_cases h3 : hi' < lo
    · refine ⟨[.cells [i64 a, i64 lo, i64 hi']], fun R hR => ?_⟩
      simp [h3] at hR
      rw [lim_loop]
      (try simp only [go_sem, ↓reduceIte, Nat.reduceAdd, Nat.reduceEqDiff, Nat.reduceLT, Nat.reduceLeDiff, Nat.reduceBEq, Int.reduceEq, Int.reduceLT, Int.reduceLE]); rw [lt_yes (by simpa [lenOf] using hlt)]; (try simp only [go_sem, ↓reduceIte, Nat.reduceAdd, Nat.reduceEqDiff, Nat.reduceLT, Nat.reduceLeDiff, Nat.reduceBEq, Int.reduceEq, Int.reduceLT, Int.reduceLE])
      rw [idxA_at (by simpa [lenOf] using hlt)]; (try simp only [go_sem, ↓reduceIte, Nat.reduceAdd, Nat.reduceEqDiff, Nat.reduceLT, Nat.reduceLeDiff, Nat.reduceBEq, Int.reduceEq, Int.reduceLT, Int.reduceLE])
      rw [drop_cS he]; (try simp only [go_sem, ↓reduceIte, Nat.reduceAdd, Nat.reduceEqDiff, Nat.reduceLT, Nat.reduceLeDiff, Nat.reduceBEq, Int.reduceEq, Int.reduceLT, Int.reduceLE]); simp only [h1]; (try simp only [go_sem, ↓reduceIte, Nat.reduceAdd, Nat.reduceEqDiff, Nat.reduceLT, Nat.reduceLeDiff, Nat.reduceBEq, Int.reduceEq, Int.reduceLT, Int.reduceLE]); rw [lt_n h2]; (try simp only [go_sem, ↓reduceIte, Nat.reduceAdd, Nat.reduceEqDiff, Nat.reduceLT, Nat.reduceLeDiff, Nat.reduceBEq, Int.reduceEq, Int.reduceLT, Int.reduceLE]); rw [lt_y h3]; (try simp only [go_sem, ↓reduceIte, Nat.reduceAdd, Nat.reduceEqDiff, Nat.reduceLT, Nat.reduceLeDiff, Nat.reduceBEq, Int.reduceEq, Int.reduceLT, Int.reduceLE]); exact hR.symm
    by_cases h4 : 240 < hi'
    · refine ⟨[.cells [i64 a, i64 lo, i64 hi']], fun R hR => ?_⟩
      simp [h4] at hR
      rw [lim_loop]
      (try simp only [go_sem, ↓reduceIte, Nat.reduceAdd, Nat.reduceEqDiff, Nat.reduceLT, Nat.reduceLeDiff, Nat.reduceBEq, Int.reduceEq, Int.reduceLT, Int.reduceLE]); rw [lt_yes (by simpa [lenOf] using hlt)]; (try simp only [go_sem, ↓reduceIte, Nat.reduceAdd, Nat.reduceEqDiff, Nat.reduceLT, Nat.reduceLeDiff, Nat.reduceBEq, Int.reduceEq, Int.reduceLT, Int.reduceLE])
      rw [idxA_at (by simpa [lenOf] using hlt)]; (try simp only [go_sem, ↓reduceIte, Nat.reduceAdd, Nat.reduceEqDiff, Nat.reduceLT, Nat.reduceLeDiff, Nat.reduceBEq, Int.reduceEq, Int.reduceLT, Int.reduceLE])
      rw [drop_cS he]; (try simp only [go_sem, ↓reduceIte, Nat.reduceAdd, Nat.reduceEqDiff, Nat.reduceLT, Nat.reduceLeDiff, Nat.reduceBEq, Int.reduceEq, Int.reduceLT, Int.reduceLE]); simp only [h1]; (try simp only [go_sem, ↓reduceIte, Nat.reduceAdd, Nat.reduceEqDiff, Nat.reduceLT, Nat.reduceLeDiff, Nat.reduceBEq, Int.reduceEq, Int.reduceLT, Int.reduceLE]); rw [lt_n h2]; (try simp only [go_sem, ↓reduceIte, Nat.reduceAdd, Nat.reduceEqDiff, Nat.reduceLT, Nat.reduceLeDiff, Nat.reduceBEq, Int.reduceEq, Int.reduceLT, Int.reduceLE]); rw [lt_n h3]; (try simp only [go_sem, ↓reduceIte, Nat.reduceAdd, Nat.reduceEqDiff, Nat.reduceLT, Nat.reduceLeDiff, Nat.reduceBEq, Int.reduceEq, Int.reduceLT, Int.reduceLE]); rw [lt_y h4]; (try simp only [go_sem, ↓reduceIte, Nat.reduceAdd, Nat.reduceEqDiff, Nat.reduceLT, Nat.reduceLeDiff, Nat.reduceBEq, Int.reduceEq, Int.reduceLT, Int.reduceLE]); exact hR.symm
    refine ⟨l ++ [.cells [i64 a, i64 lo, i64 hi']], fun R hR => ?_⟩
    simp only [h2, h3, h4, decide_false, Bool.not_false, Bool.true_and] at hR
    rw [← grown1] at hR
    have := hl' R hR
    rw [lim_loop]
    (try simp only [go_sem, ↓reduceIte, Nat.reduceAdd, Nat.reduceEqDiff, Nat.reduceLT, Nat.reduceLeDiff, Nat.reduceBEq, Int.reduceEq, Int.reduceLT, Int.reduceLE]); rw [lt_yes (by simpa [lenOf] using hlt)]; (try simp only [go_sem, ↓reduceIte, Nat.reduceAdd, Nat.reduceEqDiff, Nat.reduceLT, Nat.reduceLeDiff, Nat.reduceBEq, Int.reduceEq, Int.reduceLT, Int.reduceLE])
    rw [idxA_at (by simpa [lenOf] using hlt)]; (try simp only [go_sem, ↓reduceIte, Nat.reduceAdd, Nat.reduceEqDiff, Nat.reduceLT, Nat.reduceLeDiff, Nat.reduceBEq, Int.reduceEq, Int.reduceLT, Int.reduceLE])
    rw [drop_cS he]; (try simp only [go_sem, ↓reduceIte, Nat.reduceAdd, Nat.reduceEqDiff, Nat.reduceLT, Nat.reduceLeDiff, Nat.reduceBEq, Int.reduceEq, Int.reduceLT, Int.reduceLE]); simp only [h1]; (try simp only [go_sem, ↓reduceIte, Nat.reduceAdd, Nat.reduceEqDiff, Nat.reduceLT, Nat.reduceLeDiff, Nat.reduceBEq, Int.reduceEq, Int.reduceLT, Int.reduceLE]); rw [lt_n h2]; (try simp only [go_sem, ↓reduceIte, Nat.reduceAdd, Nat.reduceEqDiff, Nat.reduceLT, Nat.reduceLeDiff, Nat.reduceBEq, Int.reduceEq, Int.reduceLT, Int.reduceLE]); rw [lt_n h3]; (try simp only [go_sem, ↓reduceIte, Nat.reduceAdd, Nat.reduceEqDiff, Nat.reduceLT, Nat.reduceLeDiff, Nat.reduceBEq, Int.reduceEq, Int.reduceLT, Int.reduceLE]); rw [lt_n h4]; (try simp only [go_sem, ↓reduceIte, Nat.reduceAdd, Nat.reduceEqDiff, Nat.reduceLT, Nat.reduceLeDiff, Nat.reduceBEq, Int.reduceEq, Int.reduceLT, Int.reduceLE])
    rw [wr_up (by omega)]
    exact this
def faultRef (S : Slate) : Int :=
  if decide (6 < S.women) || decide (6 < (S.es.length : Int)) || decide (5 < (S.ss.length : Int)) then 3
  else if decide (S.women < 0) || !allB (entOk S.women) S.es || !allB (sayOk S.women) S.ss then 1
  else if decide (2000 < manyRef 1 S.es) then 3 else 0
theorem k73 (S : Slate) (s : St) : lim tbl (.call 73 [vSl S]) s = some (.ret, [i64 (faultRef S)], s) := by
  rw [lim_call tbl_73]; obtain ⟨N, O, p, q⟩ := s; obtain ⟨w, es, ss⟩ := S
  generalize hR : faultRef ⟨w, es, ss⟩ = R
  unfold faultRef at hR
  simp only at hR
  by_cases h1 : 6 < w
  · (try simp only [go_sem, ↓reduceIte, Nat.reduceAdd, Nat.reduceEqDiff, Nat.reduceLT, Nat.reduceLeDiff, Nat.reduceBEq, Int.reduceEq, Int.reduceLT, Int.reduceLE]); rw [lt_y h1]; (try simp only [go_sem, ↓reduceIte, Nat.reduceAdd, Nat.reduceEqDiff, Nat.reduceLT, Nat.reduceLeDiff, Nat.reduceBEq, Int.reduceEq, Int.reduceLT, Int.reduceLE]); simp [h1] at hR; rw [← hR]
  by_cases h2 : (6 : Int) < Int.ofNat (lenOf es)
  · have h2' : (6 : Int) < es.length := h2
    (try simp only [go_sem, ↓reduceIte, Nat.reduceAdd, Nat.reduceEqDiff, Nat.reduceLT, Nat.reduceLeDiff, Nat.reduceBEq, Int.reduceEq, Int.reduceLT, Int.reduceLE]); rw [lt_n h1]; (try simp only [go_sem, ↓reduceIte, Nat.reduceAdd, Nat.reduceEqDiff, Nat.reduceLT, Nat.reduceLeDiff, Nat.reduceBEq, Int.reduceEq, Int.reduceLT, Int.reduceLE]); rw [lt_y h2]; (try simp only [go_sem, ↓reduceIte, Nat.reduceAdd, Nat.reduceEqDiff, Nat.reduceLT, Nat.reduceLeDiff, Nat.reduceBEq, Int.reduceEq, Int.reduceLT, Int.reduceLE]); simp [h2'] at hR; rw [← hR]
  have h2' : ¬ (6 : Int) < es.length := h2
  by_cases h3 : (5 : Int) < Int.ofNat (lenOf ss)
  · have h3' : (5 : Int) < ss.length := h3
    (try simp only [go_sem, ↓reduceIte, Nat.reduceAdd, Nat.reduceEqDiff, Nat.reduceLT, Nat.reduceLeDiff, Nat.reduceBEq, Int.reduceEq, Int.reduceLT, Int.reduceLE]); rw [lt_n h1]; (try simp only [go_sem, ↓reduceIte, Nat.reduceAdd, Nat.reduceEqDiff, Nat.reduceLT, Nat.reduceLeDiff, Nat.reduceBEq, Int.reduceEq, Int.reduceLT, Int.reduceLE]); rw [lt_n h2]; (try simp only [go_sem, ↓reduceIte, Nat.reduceAdd, Nat.reduceEqDiff, Nat.reduceLT, Nat.reduceLeDiff, Nat.reduceBEq, Int.reduceEq, Int.reduceLT, Int.reduceLE]); rw [lt_y h3]; (try simp only [go_sem, ↓reduceIte, Nat.reduceAdd, Nat.reduceEqDiff, Nat.reduceLT, Nat.reduceLeDiff, Nat.reduceBEq, Int.reduceEq, Int.reduceLT, Int.reduceLE]); simp [h3'] at hR; rw [← hR]
  have h3' : ¬ (5 : Int) < ss.length := h3
  by_cases h4 : w < 0
  · (try simp only [go_sem, ↓reduceIte, Nat.reduceAdd, Nat.reduceEqDiff, Nat.reduceLT, Nat.reduceLeDiff, Nat.reduceBEq, Int.reduceEq, Int.reduceLT, Int.reduceLE]); rw [lt_n h1]; (try simp only [go_sem, ↓reduceIte, Nat.reduceAdd, Nat.reduceEqDiff, Nat.reduceLT, Nat.reduceLeDiff, Nat.reduceBEq, Int.reduceEq, Int.reduceLT, Int.reduceLE]); rw [lt_n h2]; (try simp only [go_sem, ↓reduceIte, Nat.reduceAdd, Nat.reduceEqDiff, Nat.reduceLT, Nat.reduceLeDiff, Nat.reduceBEq, Int.reduceEq, Int.reduceLT, Int.reduceLE]); rw [lt_n h3]; (try simp only [go_sem, ↓reduceIte, Nat.reduceAdd, Nat.reduceEqDiff, Nat.reduceLT, Nat.reduceLeDiff, Nat.reduceBEq, Int.reduceEq, Int.reduceLT, Int.reduceLE]); rw [lt_y h4]; (try simp only [go_sem, ↓reduceIte, Nat.reduceAdd, Nat.reduceEqDiff, Nat.reduceLT, Nat.reduceLeDiff, Nat.reduceBEq, Int.reduceEq, Int.reduceLT, Int.reduceLE]); simp [h1, h2', h3', h4] at hR; rw [← hR]
  obtain ⟨l, hL⟩ := l73_0 w ss es (by omega) p q es.length 0 N O (by omega)
  have hL := hL _ rfl
  rw [List.drop_zero] at hL
  have hO := old_of (N := N) (O := O) (p := p) (q := q) (M := N + l.length) (l := l) (p' := p) rfl
  generalize hM : N + l.length = M at hL hO
  generalize hQ : l ++ O = Q at hL hO
  obtain ⟨l2, hL2⟩ := l73_1 w es ss (by omega) p q ss.length 0 M Q (by omega)
  have hL2 := hL2 _ rfl
  rw [List.drop_zero] at hL2
  have hO2 := old_of (N := N) (O := O) (p := p) (q := q) (M := M + l2.length) (l := l2 ++ l) (p' := p) (by simp; omega)
  rw [List.append_assoc, hQ] at hO2
  generalize M + l2.length = M2 at hL2 hO2
  generalize l2 ++ Q = Q2 at hL2 hO2
  have hK := fun s => k51 ⟨w, es, ss⟩ (by simp only; omega) s
  (try simp only [go_sem, ↓reduceIte, Nat.reduceAdd, Nat.reduceEqDiff, Nat.reduceLT, Nat.reduceLeDiff, Nat.reduceBEq, Int.reduceEq, Int.reduceLT, Int.reduceLE]); rw [lt_n h1]; (try simp only [go_sem, ↓reduceIte, Nat.reduceAdd, Nat.reduceEqDiff, Nat.reduceLT, Nat.reduceLeDiff, Nat.reduceBEq, Int.reduceEq, Int.reduceLT, Int.reduceLE]); rw [lt_n h2]; (try simp only [go_sem, ↓reduceIte, Nat.reduceAdd, Nat.reduceEqDiff, Nat.reduceLT, Nat.reduceLeDiff, Nat.reduceBEq, Int.reduceEq, Int.reduceLT, Int.reduceLE]); rw [lt_n h3]; (try simp only [go_sem, ↓reduceIte, Nat.reduceAdd, Nat.reduceEqDiff, Nat.reduceLT, Nat.reduceLeDiff, Nat.reduceBEq, Int.reduceEq, Int.reduceLT, Int.reduceLE]); rw [lt_n h4]; (try simp only [go_sem, ↓reduceIte, Nat.reduceAdd, Nat.reduceEqDiff, Nat.reduceLT, Nat.reduceLeDiff, Nat.reduceBEq, Int.reduceEq, Int.reduceLT, Int.reduceLE])
  rw [show (0 : Int) = Int.ofNat 0 from rfl, hL]
  cases hA : allB (entOk w) es with
  | false => (try simp only [go_sem, ↓reduceIte, Nat.reduceAdd, Nat.reduceEqDiff, Nat.reduceLT, Nat.reduceLeDiff, Nat.reduceBEq, Int.reduceEq, Int.reduceLT, Int.reduceLE]); rw [hO]; (try simp only [go_sem, ↓reduceIte, Nat.reduceAdd, Nat.reduceEqDiff, Nat.reduceLT, Nat.reduceLeDiff, Nat.reduceBEq, Int.reduceEq, Int.reduceLT, Int.reduceLE]); simp [h1, h2', h3', h4, hA] at hR; rw [← hR]
  | true =>
  (try simp only [go_sem, ↓reduceIte, Nat.reduceAdd, Nat.reduceEqDiff, Nat.reduceLT, Nat.reduceLeDiff, Nat.reduceBEq, Int.reduceEq, Int.reduceLT, Int.reduceLE])
  rw [show (0 : Int) = Int.ofNat 0 from rfl, hL2]
  cases hB : allB (sayOk w) ss with
  | false => (try simp only [go_sem, ↓reduceIte, Nat.reduceAdd, Nat.reduceEqDiff, Nat.reduceLT, Nat.reduceLeDiff, Nat.reduceBEq, Int.reduceEq, Int.reduceLT, Int.reduceLE]); rw [hO2]; (try simp only [go_sem, ↓reduceIte, Nat.reduceAdd, Nat.reduceEqDiff, Nat.reduceLT, Nat.reduceLeDiff, Nat.reduceBEq, Int.reduceEq, Int.reduceLT, Int.reduceLE]); simp [h1, h2', h3', h4, hA, hB] at hR; rw [← hR]
  | true =>
  (try simp only [go_sem, ↓reduceIte, Nat.reduceAdd, Nat.reduceEqDiff, Nat.reduceLT, Nat.reduceLeDiff, Nat.reduceBEq, Int.reduceEq, Int.reduceLT, Int.reduceLE])
  simp only [hK]; (try simp only [go_sem, ↓reduceIte, Nat.reduceAdd, Nat.reduceEqDiff, Nat.reduceLT, Nat.reduceLeDiff, Nat.reduceBEq, Int.reduceEq, Int.reduceLT, Int.reduceLE])
  simp only [h1, h2', h3', h4, hA, hB, decide_false, Bool.or_self, Bool.not_true, if_false, Bool.false_eq_true] at hR
  by_cases h5 : 2000 < manyRef 1 es
  · rw [lt_y h5]; (try simp only [go_sem, ↓reduceIte, Nat.reduceAdd, Nat.reduceEqDiff, Nat.reduceLT, Nat.reduceLeDiff, Nat.reduceBEq, Int.reduceEq, Int.reduceLT, Int.reduceLE])
    rw [hO2]; (try simp only [go_sem, ↓reduceIte, Nat.reduceAdd, Nat.reduceEqDiff, Nat.reduceLT, Nat.reduceLeDiff, Nat.reduceBEq, Int.reduceEq, Int.reduceLT, Int.reduceLE])
    simp [h5] at hR; rw [← hR]
  · rw [lt_n h5]; (try simp only [go_sem, ↓reduceIte, Nat.reduceAdd, Nat.reduceEqDiff, Nat.reduceLT, Nat.reduceLeDiff, Nat.reduceBEq, Int.reduceEq, Int.reduceLT, Int.reduceLE])
    rw [hO2]; (try simp only [go_sem, ↓reduceIte, Nat.reduceAdd, Nat.reduceEqDiff, Nat.reduceLT, Nat.reduceLeDiff, Nat.reduceBEq, Int.reduceEq, Int.reduceLT, Int.reduceLE])
    simp [h5] at hR; rw [← hR]
end Go.Proofs.Ytlhfeiacigmliaa

/- The wash-house's soap: what the functions compute: ounces and what is owed. -/
namespace Go.Proofs.Ytlhfeiacigmliaa
open Go
set_option maxRecDepth 10000

/-- Are these ounces of these entries? -/
def areOz : List Ent → List Int → Bool
  | [], [] => true
  | e :: es, n :: l => within n e.oz.lo e.oz.hi && areOz es l
  | _, _ => false
theorem areOz_len : ∀ {es : List Ent} {l : List Int}, areOz es l = true → l.length = es.length
  | [], [], _ => rfl
  | e :: es, n :: l, h => by simp only [areOz, Bool.and_eq_true] at h; simp [areOz_len h.2]
  | [], _ :: _, h => by simp [areOz] at h
  | _ :: _, [], h => by simp [areOz] at h
theorem areOz_ne : ∀ {es : List Ent} {l : List Int}, l.length ≠ es.length → areOz es l = false := fun {es l} h => by
  cases ha : areOz es l with
  | false => rfl
  | true => exact absurd (areOz_len ha) h
theorem l33 (w : Int) (ss : List Say) (es : List Ent) (L : List Int) (hl : es.length < 1000000) (hL : L.length = es.length) (s : St) : ∀ (k i : Nat), i + k = es.length → ∀ R,
   R = (if areOz (es.drop i) (L.drop i) then some (.exit 0, [], s) else some (.ret, [.bool false], s)) →
   lim tbl (.loop a33_l0 30 ⟨[1, 2, 5], [], [4]⟩ [sl cI L, .vref [i64 w, sl cE es, sl cS ss], i64 (Int.ofNat i)]) s = R := by
  intro k
  induction k with
  | zero =>
    intro i hi R hR
    obtain ⟨N, O, p, q⟩ := s
    rw [List.drop_eq_nil_of_le (by omega), List.drop_eq_nil_of_le (by omega)] at hR
    simp only [areOz, if_true] at hR
    rw [lim_loop]
    (try simp only [go_sem, ↓reduceIte, Nat.reduceAdd, Nat.reduceEqDiff, Nat.reduceLT, Nat.reduceLeDiff, Nat.reduceBEq, Int.reduceEq, Int.reduceLT, Int.reduceLE]); rw [lt_no (by simp [lenOf]; omega)]; (try simp only [go_sem, ↓reduceIte, Nat.reduceAdd, Nat.reduceEqDiff, Nat.reduceLT, Nat.reduceLeDiff, Nat.reduceBEq, Int.reduceEq, Int.reduceLT, Int.reduceLE]); exact hR.symm
  | succ k ih =>
    intro i hi R hR
    obtain ⟨N, O, p, q⟩ := s
    have hlt : i < es.length := by omega
    have hlt' : i < L.length := by omega
    obtain ⟨e, he, hd⟩ := getElem_drop hlt
    obtain ⟨n, hn, hd'⟩ := getElem_drop hlt'
    obtain ⟨a, b, ⟨lo, hi'⟩⟩ := e
    rw [hd, hd', areOz] at hR
    rw [lim_loop]
    (try simp only [go_sem, ↓reduceIte, Nat.reduceAdd, Nat.reduceEqDiff, Nat.reduceLT, Nat.reduceLeDiff, Nat.reduceBEq, Int.reduceEq, Int.reduceLT, Int.reduceLE]); rw [lt_yes (by simpa [lenOf] using hlt')]; (try simp only [go_sem, ↓reduceIte, Nat.reduceAdd, Nat.reduceEqDiff, Nat.reduceLT, Nat.reduceLeDiff, Nat.reduceBEq, Int.reduceEq, Int.reduceLT, Int.reduceLE])
    rw [idxA_at (by simpa [lenOf] using hlt')]; (try simp only [go_sem, ↓reduceIte, Nat.reduceAdd, Nat.reduceEqDiff, Nat.reduceLT, Nat.reduceLeDiff, Nat.reduceBEq, Int.reduceEq, Int.reduceLT, Int.reduceLE])
    rw [drop_cI hn]; (try simp only [go_sem, ↓reduceIte, Nat.reduceAdd, Nat.reduceEqDiff, Nat.reduceLT, Nat.reduceLeDiff, Nat.reduceBEq, Int.reduceEq, Int.reduceLT, Int.reduceLE])
    rw [idxA_at (by simpa [lenOf] using hlt)]; (try simp only [go_sem, ↓reduceIte, Nat.reduceAdd, Nat.reduceEqDiff, Nat.reduceLT, Nat.reduceLeDiff, Nat.reduceBEq, Int.reduceEq, Int.reduceLT, Int.reduceLE])
    rw [drop_cE he]; (try simp only [go_sem, ↓reduceIte, Nat.reduceAdd, Nat.reduceEqDiff, Nat.reduceLT, Nat.reduceLeDiff, Nat.reduceBEq, Int.reduceEq, Int.reduceLT, Int.reduceLE])
    cases h : within n lo hi' with
    | false => (try simp only [go_sem, ↓reduceIte, Nat.reduceAdd, Nat.reduceEqDiff, Nat.reduceLT, Nat.reduceLeDiff, Nat.reduceBEq, Int.reduceEq, Int.reduceLT, Int.reduceLE]); simp only [h, Bool.false_and, Bool.false_eq_true, if_false] at hR; exact hR.symm
    | true =>
      simp only [h, Bool.true_and] at hR
      (try simp only [go_sem, ↓reduceIte, Nat.reduceAdd, Nat.reduceEqDiff, Nat.reduceLT, Nat.reduceLeDiff, Nat.reduceBEq, Int.reduceEq, Int.reduceLT, Int.reduceLE]); rw [wr_up (by omega)]
      exact ih (i + 1) (by omega) R hR
theorem k33 (S : Slate) (L : List Int) (hl : S.es.length < 1000000) (s : St) : lim tbl (.call 33 [vSl S, sl cI L]) s = some (.ret, [.bool (areOz S.es L)], s) := by
  obtain ⟨w, es, ss⟩ := S
  rw [lim_call tbl_33]
  by_cases hL : (Int.ofNat (lenOf L)) = Int.ofNat (lenOf es)
  · have hL' : L.length = es.length := Int.ofNat.inj hL
    have h := l33 w ss es L hl hL' s es.length 0 (by omega) _ rfl
    rw [List.drop_zero, List.drop_zero] at h
    obtain ⟨N, O, p, q⟩ := s
    (try simp only [go_sem, ↓reduceIte, Nat.reduceAdd, Nat.reduceEqDiff, Nat.reduceLT, Nat.reduceLeDiff, Nat.reduceBEq, Int.reduceEq, Int.reduceLT, Int.reduceLE]); rw [eq_y hL]; (try simp only [go_sem, ↓reduceIte, Nat.reduceAdd, Nat.reduceEqDiff, Nat.reduceLT, Nat.reduceLeDiff, Nat.reduceBEq, Int.reduceEq, Int.reduceLT, Int.reduceLE])
    rw [show (0 : Int) = Int.ofNat 0 from rfl, h]
    cases areOz es L <;> (try simp only [go_sem, ↓reduceIte, Nat.reduceAdd, Nat.reduceEqDiff, Nat.reduceLT, Nat.reduceLeDiff, Nat.reduceBEq, Int.reduceEq, Int.reduceLT, Int.reduceLE])
  · have hL' : L.length ≠ es.length := fun h => hL (congrArg Int.ofNat h)
    rw [areOz_ne hL']
    obtain ⟨N, O, p, q⟩ := s
    (try simp only [go_sem, ↓reduceIte, Nat.reduceAdd, Nat.reduceEqDiff, Nat.reduceLT, Nat.reduceLeDiff, Nat.reduceBEq, Int.reduceEq, Int.reduceLT, Int.reduceLE]); rw [eq_n hL]; (try simp only [go_sem, ↓reduceIte, Nat.reduceAdd, Nat.reduceEqDiff, Nat.reduceLT, Nat.reduceLeDiff, Nat.reduceBEq, Int.reduceEq, Int.reduceLT, Int.reduceLE])

/-- What a woman is owed. -/
def owedUp (n w : Int) : List Ent → List Int → Int
  | e :: es, x :: l =>
    let n := if e.fr = w then wr .i64 (n + x) else n
    let n := if e.to = w then wr .i64 (n - x) else n
    owedUp n w es l
  | _, _ => n
theorem l48 (w : Int) (ss : List Say) (es : List Ent) (L : List Int) (u : Int) (hl : es.length < 1000000) (hL : L.length = es.length) (s : St) : ∀ (k i : Nat) (n : Int), i + k = es.length → ∀ R,
   R = some (.exit 0, [i64 (owedUp n u (es.drop i) (L.drop i))], s) →
   lim tbl (.loop a48_l0 45 ⟨[1, 2, 3, 7, 8], [7], []⟩ [sl cI L, i64 u, .vref [i64 w, sl cE es, sl cS ss], i64 n, i64 (Int.ofNat i)]) s = R := by
  intro k
  induction k with
  | zero =>
    intro i n hi R hR
    obtain ⟨N, O, p, q⟩ := s
    rw [List.drop_eq_nil_of_le (by omega), List.drop_eq_nil_of_le (by omega)] at hR
    simp only [owedUp] at hR
    rw [lim_loop]
    (try simp only [go_sem, ↓reduceIte, Nat.reduceAdd, Nat.reduceEqDiff, Nat.reduceLT, Nat.reduceLeDiff, Nat.reduceBEq, Int.reduceEq, Int.reduceLT, Int.reduceLE]); rw [lt_no (by simp [lenOf]; omega)]; (try simp only [go_sem, ↓reduceIte, Nat.reduceAdd, Nat.reduceEqDiff, Nat.reduceLT, Nat.reduceLeDiff, Nat.reduceBEq, Int.reduceEq, Int.reduceLT, Int.reduceLE]); exact hR.symm
  | succ k ih =>
    intro i n hi R hR
    obtain ⟨N, O, p, q⟩ := s
    have hlt : i < es.length := by omega
    have hlt' : i < L.length := by omega
    obtain ⟨e, he, hd⟩ := getElem_drop hlt
    obtain ⟨x, hx, hd'⟩ := getElem_drop hlt'
    obtain ⟨a, b, ⟨lo, hi'⟩⟩ := e
    rw [hd, hd', owedUp] at hR
    rw [lim_loop]
    (try simp only [go_sem, ↓reduceIte, Nat.reduceAdd, Nat.reduceEqDiff, Nat.reduceLT, Nat.reduceLeDiff, Nat.reduceBEq, Int.reduceEq, Int.reduceLT, Int.reduceLE]); rw [lt_yes (by simpa [lenOf] using hlt)]; (try simp only [go_sem, ↓reduceIte, Nat.reduceAdd, Nat.reduceEqDiff, Nat.reduceLT, Nat.reduceLeDiff, Nat.reduceBEq, Int.reduceEq, Int.reduceLT, Int.reduceLE])
    rw [idxA_at (by simpa [lenOf] using hlt)]; (try simp only [go_sem, ↓reduceIte, Nat.reduceAdd, Nat.reduceEqDiff, Nat.reduceLT, Nat.reduceLeDiff, Nat.reduceBEq, Int.reduceEq, Int.reduceLT, Int.reduceLE])
    rw [drop_cE he]; (try simp only [go_sem, ↓reduceIte, Nat.reduceAdd, Nat.reduceEqDiff, Nat.reduceLT, Nat.reduceLeDiff, Nat.reduceBEq, Int.reduceEq, Int.reduceLT, Int.reduceLE])
    by_cases h1 : a = u <;> by_cases h2 : b = u
    · rw [eq_y h1]; (try simp only [go_sem, ↓reduceIte, Nat.reduceAdd, Nat.reduceEqDiff, Nat.reduceLT, Nat.reduceLeDiff, Nat.reduceBEq, Int.reduceEq, Int.reduceLT, Int.reduceLE])
      rw [idxA_at (by simpa [lenOf] using hlt')]; (try simp only [go_sem, ↓reduceIte, Nat.reduceAdd, Nat.reduceEqDiff, Nat.reduceLT, Nat.reduceLeDiff, Nat.reduceBEq, Int.reduceEq, Int.reduceLT, Int.reduceLE])
      rw [drop_cI hx]; (try simp only [go_sem, ↓reduceIte, Nat.reduceAdd, Nat.reduceEqDiff, Nat.reduceLT, Nat.reduceLeDiff, Nat.reduceBEq, Int.reduceEq, Int.reduceLT, Int.reduceLE])
      rw [idxA_at (by simpa [lenOf] using hlt)]; (try simp only [go_sem, ↓reduceIte, Nat.reduceAdd, Nat.reduceEqDiff, Nat.reduceLT, Nat.reduceLeDiff, Nat.reduceBEq, Int.reduceEq, Int.reduceLT, Int.reduceLE])
      rw [drop_cE he]; (try simp only [go_sem, ↓reduceIte, Nat.reduceAdd, Nat.reduceEqDiff, Nat.reduceLT, Nat.reduceLeDiff, Nat.reduceBEq, Int.reduceEq, Int.reduceLT, Int.reduceLE])
      rw [eq_y h2]; (try simp only [go_sem, ↓reduceIte, Nat.reduceAdd, Nat.reduceEqDiff, Nat.reduceLT, Nat.reduceLeDiff, Nat.reduceBEq, Int.reduceEq, Int.reduceLT, Int.reduceLE])
      rw [idxA_at (by simpa [lenOf] using hlt')]; (try simp only [go_sem, ↓reduceIte, Nat.reduceAdd, Nat.reduceEqDiff, Nat.reduceLT, Nat.reduceLeDiff, Nat.reduceBEq, Int.reduceEq, Int.reduceLT, Int.reduceLE])
      rw [drop_cI hx]; (try simp only [go_sem, ↓reduceIte, Nat.reduceAdd, Nat.reduceEqDiff, Nat.reduceLT, Nat.reduceLeDiff, Nat.reduceBEq, Int.reduceEq, Int.reduceLT, Int.reduceLE])
      rw [wr_up (by omega)]
      simp only [h1, h2, if_true] at hR
      exact ih (i + 1) _ (by omega) R hR
    · rw [eq_y h1]; (try simp only [go_sem, ↓reduceIte, Nat.reduceAdd, Nat.reduceEqDiff, Nat.reduceLT, Nat.reduceLeDiff, Nat.reduceBEq, Int.reduceEq, Int.reduceLT, Int.reduceLE])
      rw [idxA_at (by simpa [lenOf] using hlt')]; (try simp only [go_sem, ↓reduceIte, Nat.reduceAdd, Nat.reduceEqDiff, Nat.reduceLT, Nat.reduceLeDiff, Nat.reduceBEq, Int.reduceEq, Int.reduceLT, Int.reduceLE])
      rw [drop_cI hx]; (try simp only [go_sem, ↓reduceIte, Nat.reduceAdd, Nat.reduceEqDiff, Nat.reduceLT, Nat.reduceLeDiff, Nat.reduceBEq, Int.reduceEq, Int.reduceLT, Int.reduceLE])
      rw [idxA_at (by simpa [lenOf] using hlt)]; (try simp only [go_sem, ↓reduceIte, Nat.reduceAdd, Nat.reduceEqDiff, Nat.reduceLT, Nat.reduceLeDiff, Nat.reduceBEq, Int.reduceEq, Int.reduceLT, Int.reduceLE])
      rw [drop_cE he]; (try simp only [go_sem, ↓reduceIte, Nat.reduceAdd, Nat.reduceEqDiff, Nat.reduceLT, Nat.reduceLeDiff, Nat.reduceBEq, Int.reduceEq, Int.reduceLT, Int.reduceLE])
      rw [eq_n h2]; (try simp only [go_sem, ↓reduceIte, Nat.reduceAdd, Nat.reduceEqDiff, Nat.reduceLT, Nat.reduceLeDiff, Nat.reduceBEq, Int.reduceEq, Int.reduceLT, Int.reduceLE])
      rw [wr_up (by omega)]
      simp only [h1, h2, if_true, if_false] at hR
      exact ih (i + 1) _ (by omega) R hR
    · rw [eq_n h1]; (try simp only [go_sem, ↓reduceIte, Nat.reduceAdd, Nat.reduceEqDiff, Nat.reduceLT, Nat.reduceLeDiff, Nat.reduceBEq, Int.reduceEq, Int.reduceLT, Int.reduceLE])
      rw [idxA_at (by simpa [lenOf] using hlt)]; (try simp only [go_sem, ↓reduceIte, Nat.reduceAdd, Nat.reduceEqDiff, Nat.reduceLT, Nat.reduceLeDiff, Nat.reduceBEq, Int.reduceEq, Int.reduceLT, Int.reduceLE])
      rw [drop_cE he]; (try simp only [go_sem, ↓reduceIte, Nat.reduceAdd, Nat.reduceEqDiff, Nat.reduceLT, Nat.reduceLeDiff, Nat.reduceBEq, Int.reduceEq, Int.reduceLT, Int.reduceLE])
      rw [eq_y h2]; (try simp only [go_sem, ↓reduceIte, Nat.reduceAdd, Nat.reduceEqDiff, Nat.reduceLT, Nat.reduceLeDiff, Nat.reduceBEq, Int.reduceEq, Int.reduceLT, Int.reduceLE])
      rw [idxA_at (by simpa [lenOf] using hlt')]; (try simp only [go_sem, ↓reduceIte, Nat.reduceAdd, Nat.reduceEqDiff, Nat.reduceLT, Nat.reduceLeDiff, Nat.reduceBEq, Int.reduceEq, Int.reduceLT, Int.reduceLE])
      rw [drop_cI hx]; (try simp only [go_sem, ↓reduceIte, Nat.reduceAdd, Nat.reduceEqDiff, Nat.reduceLT, Nat.reduceLeDiff, Nat.reduceBEq, Int.reduceEq, Int.reduceLT, Int.reduceLE])
      rw [wr_up (by omega)]
      simp only [h1, h2, if_true, if_false] at hR
      exact ih (i + 1) _ (by omega) R hR
    · rw [eq_n h1]; (try simp only [go_sem, ↓reduceIte, Nat.reduceAdd, Nat.reduceEqDiff, Nat.reduceLT, Nat.reduceLeDiff, Nat.reduceBEq, Int.reduceEq, Int.reduceLT, Int.reduceLE])
      rw [idxA_at (by simpa [lenOf] using hlt)]; (try simp only [go_sem, ↓reduceIte, Nat.reduceAdd, Nat.reduceEqDiff, Nat.reduceLT, Nat.reduceLeDiff, Nat.reduceBEq, Int.reduceEq, Int.reduceLT, Int.reduceLE])
      rw [drop_cE he]; (try simp only [go_sem, ↓reduceIte, Nat.reduceAdd, Nat.reduceEqDiff, Nat.reduceLT, Nat.reduceLeDiff, Nat.reduceBEq, Int.reduceEq, Int.reduceLT, Int.reduceLE])
      rw [eq_n h2]; (try simp only [go_sem, ↓reduceIte, Nat.reduceAdd, Nat.reduceEqDiff, Nat.reduceLT, Nat.reduceLeDiff, Nat.reduceBEq, Int.reduceEq, Int.reduceLT, Int.reduceLE])
      rw [wr_up (by omega)]
      simp only [h1, h2, if_false] at hR
      exact ih (i + 1) _ (by omega) R hR
theorem k48 (S : Slate) (L : List Int) (u : Int) (hl : S.es.length < 1000000) (hL : L.length = S.es.length) (s : St) : lim tbl (.call 48 [vSl S, sl cI L, i64 u]) s = some (.ret, [i64 (owedUp 0 u S.es L)], s) := by
  obtain ⟨w, es, ss⟩ := S
  have h := l48 w ss es L u hl hL s es.length 0 0 (by omega) _ rfl
  rw [List.drop_zero, List.drop_zero] at h
  rw [lim_call tbl_48]; obtain ⟨N, O, p, q⟩ := s
  (try simp only [go_sem, ↓reduceIte, Nat.reduceAdd, Nat.reduceEqDiff, Nat.reduceLT, Nat.reduceLeDiff, Nat.reduceBEq, Int.reduceEq, Int.reduceLT, Int.reduceLE])
  rw [ofNat_0] at h
  rw [h]; (try simp only [go_sem, ↓reduceIte, Nat.reduceAdd, Nat.reduceEqDiff, Nat.reduceLT, Nat.reduceLeDiff, Nat.reduceBEq, Int.reduceEq, Int.reduceLT, Int.reduceLE])
end Go.Proofs.Ytlhfeiacigmliaa

/- The wash-house's soap: what the functions compute: which sayings are right, and what a slate becomes. -/
namespace Go.Proofs.Ytlhfeiacigmliaa
open Go
set_option maxRecDepth 10000

/-- A state that has grown: nothing old has changed, and the rooms are the same. -/
def Gr (s s' : St) : Prop := (s.n ≤ s'.n ∧ s'.objs.drop (s'.n - s.n) = s.objs) ∧ s'.pn = s.pn ∧ s'.cur = s.cur
theorem Gr.refl (s : St) : Gr s s := ⟨⟨by omega, by simp⟩, rfl, rfl⟩
theorem Gr.trans {a b c : St} (h : Gr a b) (h' : Gr b c) : Gr a c := by
  obtain ⟨⟨h1, h2⟩, h3, h4⟩ := h
  obtain ⟨⟨g1, g2⟩, g3, g4⟩ := h'
  refine ⟨⟨by omega, ?_⟩, by rw [g3, h3], by rw [g4, h4]⟩
  rw [← h2, ← g2, List.drop_drop]
  congr 1; omega
theorem Gr.old {s s' : St} (h : Gr s s') : old s s' = true := by
  simp only [Ytlhfeiacigmliaa.old, decide_eq_true_eq]
  exact ⟨h.1.1, h.1.2, fun p _ => by rw [h.2.2]⟩
theorem Gr.push (N : Nat) (O : List AObj) (p : Nat) (q : Nat → Nat) (o : AObj) : Gr ⟨N, O, p, q⟩ ⟨na N 1, o :: O, p, q⟩ := by
  refine ⟨⟨?_, ?_⟩, rfl, rfl⟩
  · simp only [na]; omega
  · simp only [na, Nat.add_sub_cancel_left]; simp

def rightOk (es : List Ent) (L : List Int) (x : Say) : Bool := within (owedUp 0 x.w es L) x.ow.lo x.ow.hi
def orUp (P : Say → Bool) (n i : Nat) : List Say → Nat
  | [] => n
  | x :: l => orUp P (if P x then bor n (pw i) else n) (i + 1) l
theorem bor_lt {n i : Nat} (h : n < pw i) : bor n (pw i) < pw (i + 1) := by
  unfold bor pw at *
  exact Nat.or_lt_two_pow (Nat.lt_trans h (Nat.pow_lt_pow_succ (by omega))) (Nat.pow_lt_pow_succ (by omega))
theorem pw_le {n i : Nat} (h : n < pw i) : n < pw (i + 1) := Nat.lt_trans h (Nat.pow_lt_pow_succ (by omega))
theorem l88 (w : Int) (es : List Ent) (L : List Int) (ss : List Say) (hE : es.length < 1000000) (hL : L.length = es.length) (hS : ss.length < 60) : ∀ (k i n : Nat) (s : St), i + k = ss.length → n < pw i →
   ∃ s', Gr s s' ∧ lim tbl (.loop a88_l0 34 ⟨[1, 2, 5, 6], [5], []⟩ [sl cI L, .vref [i64 w, sl cE es, sl cS ss], i64 (Int.ofNat n), i64 (Int.ofNat i)]) s = some (.exit 0, [i64 (Int.ofNat (orUp (rightOk es L) n i (ss.drop i)))], s') := by
  intro k
  induction k with
  | zero =>
    intro i n s hi hn
    obtain ⟨N, O, p, q⟩ := s
    refine ⟨_, Gr.refl _, ?_⟩
    rw [List.drop_eq_nil_of_le (by omega), orUp, lim_loop]
    (try simp only [go_sem, ↓reduceIte, Nat.reduceAdd, Nat.reduceEqDiff, Nat.reduceLT, Nat.reduceLeDiff, Nat.reduceBEq, Int.reduceEq, Int.reduceLT, Int.reduceLE]); (repeat ((first | (rw [lt_yes]; rotate_left; (first | omega | (simp [lenOf, app]; omega) | (simp only [lenOf]; omega))) | (rw [lt_no]; rotate_left; (first | omega | (simp [lenOf, app]; omega) | (simp only [lenOf]; omega))) | (rw [idxA_at]; rotate_left; (first | omega | (simp [lenOf, app]; omega) | (simp only [lenOf]; omega))) | (rw [wr_up]; rotate_left; (first | omega | (simp [lenOf, app]; omega) | (simp only [lenOf]; omega))) | ((first | rw [drop_cI] | rw [drop_cE] | rw [drop_cS] | rw [drop_cP] | rw [drop_cR]); rotate_left; assumption)); try simp only [go_sem, ↓reduceIte, Nat.reduceAdd, Nat.reduceEqDiff, Nat.reduceLT, Nat.reduceLeDiff, Nat.reduceBEq, Int.reduceEq, Int.reduceLT, Int.reduceLE]))
  | succ k ih =>
    intro i n s hi hn
    obtain ⟨N, O, p, q⟩ := s
    have hlt : i < ss.length := by omega
    obtain ⟨e, he, hd⟩ := getElem_drop hlt
    obtain ⟨a, ⟨lo, hi'⟩⟩ := e
    have hK := fun s => k48 ⟨w, es, ss⟩ L a hE hL s
    rw [hd, orUp]
    have hr : rightOk es L ⟨a, ⟨lo, hi'⟩⟩ = within (owedUp 0 a es L) lo hi' := by rfl
    rw [hr]
    have hp : pw i < 9223372036854775808 := pw_lt (by omega)
    cases h1 : within (owedUp 0 a es L) lo hi' with
    | false =>
      obtain ⟨s', hg, h'⟩ := ih (i + 1) n ⟨na N 1, .cells [i64 a, i64 lo, i64 hi'] :: O, p, q⟩ (by omega) (pw_le hn)
      refine ⟨s', (Gr.push ..).trans hg, ?_⟩
      rw [lim_loop]
      (try simp only [go_sem, ↓reduceIte, Nat.reduceAdd, Nat.reduceEqDiff, Nat.reduceLT, Nat.reduceLeDiff, Nat.reduceBEq, Int.reduceEq, Int.reduceLT, Int.reduceLE]); (repeat ((first | simp only [hK] | simp only [h1] | (rw [lt_yes]; rotate_left; (first | omega | (simp [lenOf, app]; omega) | (simp only [lenOf]; omega))) | (rw [lt_no]; rotate_left; (first | omega | (simp [lenOf, app]; omega) | (simp only [lenOf]; omega))) | (rw [idxA_at]; rotate_left; (first | omega | (simp [lenOf, app]; omega) | (simp only [lenOf]; omega))) | (rw [wr_up]; rotate_left; (first | omega | (simp [lenOf, app]; omega) | (simp only [lenOf]; omega))) | ((first | rw [drop_cI] | rw [drop_cE] | rw [drop_cS] | rw [drop_cP] | rw [drop_cR]); rotate_left; assumption)); try simp only [go_sem, ↓reduceIte, Nat.reduceAdd, Nat.reduceEqDiff, Nat.reduceLT, Nat.reduceLeDiff, Nat.reduceBEq, Int.reduceEq, Int.reduceLT, Int.reduceLE]))
      exact h'
    | true =>
      obtain ⟨s', hg, h'⟩ := ih (i + 1) (bor n (pw i)) ⟨na N 1, .cells [i64 a, i64 lo, i64 hi'] :: O, p, q⟩ (by omega) (bor_lt hn)
      refine ⟨s', (Gr.push ..).trans hg, ?_⟩
      rw [lim_loop]
      (try simp only [go_sem, ↓reduceIte, Nat.reduceAdd, Nat.reduceEqDiff, Nat.reduceLT, Nat.reduceLeDiff, Nat.reduceBEq, Int.reduceEq, Int.reduceLT, Int.reduceLE]); (repeat ((first | simp only [hK] | simp only [h1] | (rw [wr_u]; rotate_left; (omega)) | (rw [shl1_at]; rotate_left; (omega)) | (rw [bits_or]; rotate_left; (omega; omega)) | (rw [lt_yes]; rotate_left; (first | omega | (simp [lenOf, app]; omega) | (simp only [lenOf]; omega))) | (rw [lt_no]; rotate_left; (first | omega | (simp [lenOf, app]; omega) | (simp only [lenOf]; omega))) | (rw [idxA_at]; rotate_left; (first | omega | (simp [lenOf, app]; omega) | (simp only [lenOf]; omega))) | (rw [wr_up]; rotate_left; (first | omega | (simp [lenOf, app]; omega) | (simp only [lenOf]; omega))) | ((first | rw [drop_cI] | rw [drop_cE] | rw [drop_cS] | rw [drop_cP] | rw [drop_cR]); rotate_left; assumption)); try simp only [go_sem, ↓reduceIte, Nat.reduceAdd, Nat.reduceEqDiff, Nat.reduceLT, Nat.reduceLeDiff, Nat.reduceBEq, Int.reduceEq, Int.reduceLT, Int.reduceLE]))
      exact h'
theorem k88 (S : Slate) (L : List Int) (hE : S.es.length < 1000000) (hL : L.length = S.es.length) (hS : S.ss.length < 60) (s : St) : lim tbl (.call 88 [vSl S, sl cI L]) s = some (.ret, [i64 (Int.ofNat (orUp (rightOk S.es L) 0 0 S.ss))], s) := by
  obtain ⟨w, es, ss⟩ := S
  rw [lim_call tbl_88]; obtain ⟨N, O, p, q⟩ := s
  obtain ⟨s', hg, h'⟩ := l88 w es L ss hE hL hS ss.length 0 0 ⟨N, O, p, q⟩ (by omega) (by simp [pw])
  rw [List.drop_zero, ofNat_0] at h'
  have hO := hg.old
  (try simp only [go_sem, ↓reduceIte, Nat.reduceAdd, Nat.reduceEqDiff, Nat.reduceLT, Nat.reduceLeDiff, Nat.reduceBEq, Int.reduceEq, Int.reduceLT, Int.reduceLE]); (repeat ((first | rw [h'] | rw [hO] | (rw [lt_yes]; rotate_left; (first | omega | (simp [lenOf, app]; omega) | (simp only [lenOf]; omega))) | (rw [lt_no]; rotate_left; (first | omega | (simp [lenOf, app]; omega) | (simp only [lenOf]; omega))) | (rw [idxA_at]; rotate_left; (first | omega | (simp [lenOf, app]; omega) | (simp only [lenOf]; omega))) | (rw [wr_up]; rotate_left; (first | omega | (simp [lenOf, app]; omega) | (simp only [lenOf]; omega))) | ((first | rw [drop_cI] | rw [drop_cE] | rw [drop_cS] | rw [drop_cP] | rw [drop_cR]); rotate_left; assumption)); try simp only [go_sem, ↓reduceIte, Nat.reduceAdd, Nat.reduceEqDiff, Nat.reduceLT, Nat.reduceLeDiff, Nat.reduceBEq, Int.reduceEq, Int.reduceLT, Int.reduceLE]))
def fullN (n : Nat) : Nat := pw n - 1
theorem pw_pos (n : Nat) : 0 < pw n := Nat.two_pow_pos n
theorem k59 (S : Slate) (hS : S.ss.length < 60) (s : St) : lim tbl (.call 59 [vSl S]) s = some (.ret, [i64 (Int.ofNat (fullN (lenOf S.ss)))], s) := by
  obtain ⟨w, es, ss⟩ := S
  rw [lim_call tbl_59]; obtain ⟨N, O, p, q⟩ := s
  have hl : lenOf ss < 60 := hS
  have h1 : shlI 1 (Int.ofNat (lenOf ss)) = some (i64 (Int.ofNat (pw (lenOf ss)))) := shl1_at (by omega)
  have h2 : wr .i64 (Int.sub (Int.ofNat (pw (lenOf ss))) 1) = Int.ofNat (fullN (lenOf ss)) := by
    have hp : pw (lenOf ss) < 9223372036854775808 := pw_lt (by omega)
    have h0 := pw_pos (lenOf ss)
    unfold fullN
    rw [fold_sub, wr_in] <;> simp <;> omega
  (try simp only [go_sem, ↓reduceIte, Nat.reduceAdd, Nat.reduceEqDiff, Nat.reduceLT, Nat.reduceLeDiff, Nat.reduceBEq, Int.reduceEq, Int.reduceLT, Int.reduceLE]); (repeat ((first | (rw [wr_u]; rotate_left; (omega)) | rw [h1] | rw [h2] | (rw [lt_yes]; rotate_left; (first | omega | (simp [lenOf, app]; omega) | (simp only [lenOf]; omega))) | (rw [lt_no]; rotate_left; (first | omega | (simp [lenOf, app]; omega) | (simp only [lenOf]; omega))) | (rw [idxA_at]; rotate_left; (first | omega | (simp [lenOf, app]; omega) | (simp only [lenOf]; omega))) | (rw [wr_up]; rotate_left; (first | omega | (simp [lenOf, app]; omega) | (simp only [lenOf]; omega))) | ((first | rw [drop_cI] | rw [drop_cE] | rw [drop_cS] | rw [drop_cP] | rw [drop_cR]); rotate_left; assumption)); try simp only [go_sem, ↓reduceIte, Nat.reduceAdd, Nat.reduceEqDiff, Nat.reduceLT, Nat.reduceLeDiff, Nat.reduceBEq, Int.reduceEq, Int.reduceLT, Int.reduceLE]))
end Go.Proofs.Ytlhfeiacigmliaa

/- The wash-house's soap: what the functions compute: a slate of the program's, and what is thin. -/
namespace Go.Proofs.Ytlhfeiacigmliaa
open Go
set_option maxRecDepth 10000

@[go_sem] theorem beq_own_cE (p : Nat) (l : List Ent) : AVal.beq (ownSl cE p l) (ownSl cE p l) = true := beq_own (fun a => by simp [cE, beqs, AVal.beq]) p l
@[go_sem] theorem beq_own_cS (p : Nat) (l : List Say) : AVal.beq (ownSl cS p l) (ownSl cS p l) = true := beq_own (fun a => by simp [cS, beqs, AVal.beq]) p l
@[go_sem] theorem weak_own_cE (p : Nat) (l : List Ent) : AVal.weak (ownSl cE p l) = some (sl cE l) := weak_ownSl (fun _ => rfl) ..
@[go_sem] theorem weak_own_cS (p : Nat) (l : List Say) : AVal.weak (ownSl cS p l) = some (sl cS l) := weak_ownSl (fun _ => rfl) ..
@[go_sem] theorem frz_own_cP (n : Nat) (s : St) (sz p : Nat) (l : List Pay) : frz n s sz (ownSl cP p l) = some (sl cP l) := frz_ownSl (fun _ => rfl) ..
@[go_sem] theorem norm_own_cI (p : Nat) (l : List Int) : AVal.norm (ownSl cI p l) = sl cI l := norm_own _ _ _ (norms_cI l)
@[go_sem] theorem k27 (lo hi : Int) (s : St) : lim tbl (.call 27 [.agg [i64 lo, i64 hi]]) s = some (.ret, [.agg [i64 lo, i64 hi]], s) := by
  rw [lim_call tbl_27]; obtain ⟨N, O, p, q⟩ := s; (try simp only [go_sem, ↓reduceIte, Nat.reduceAdd, Nat.reduceEqDiff, Nat.reduceLT, Nat.reduceLeDiff, Nat.reduceBEq, Int.reduceEq, Int.reduceLT, Int.reduceLE])
theorem app_assoc {α : Type} (l m : List α) (a : α) : app l (a :: m) = app (app l [a]) m := by simp [app]
theorem app_nil {α : Type} (l : List α) : app l [] = l := by simp [app]
theorem l24_0 (w : Int) (es : List Ent) (ss : List Say) (hl : es.length < 1000000) (N : Nat) (O : List AObj) (p : Nat) (q : Nat → Nat) : ∀ (k i : Nat) (acc : List Ent), i + k = es.length → acc.length = i →
   lim tbl (.loop a24_l0 68 ⟨[1, 2, 3, 4], [1, 2, 3], []⟩ [.vref [i64 w, sl cE es, sl cS ss], .ptr N 0, .ptr (na N 1) 0, i64 (Int.ofNat i)])
     ⟨na (na N 1) 1, .cells [i64 w, ownSl cE p acc, .sl0] :: .cells [i64 0, .sl0, .sl0] :: O, roomP p (lenOf acc), roomC p q (lenOf acc)⟩
   = some (.exit 0, [.vref [i64 w, sl cE es, sl cS ss], .ptr N 0, .ptr (na N 1) 0],
     ⟨na (na N 1) 1, .cells [i64 w, ownSl cE p (app acc (es.drop i)), .sl0] :: .cells [i64 0, .sl0, .sl0] :: O, roomP p (lenOf (app acc (es.drop i))), roomC p q (lenOf (app acc (es.drop i)))⟩) := by
  intro k
  induction k with
  | zero =>
    intro i acc hi ha
    rw [List.drop_eq_nil_of_le (by omega), app_nil, lim_loop]
    (try simp only [go_sem, ↓reduceIte, Nat.reduceAdd, Nat.reduceEqDiff, Nat.reduceLT, Nat.reduceLeDiff, Nat.reduceBEq, Int.reduceEq, Int.reduceLT, Int.reduceLE]); (repeat ((first | (rw [lt_yes]; rotate_left; (first | omega | (simp [lenOf, app]; omega) | (simp only [lenOf]; omega))) | (rw [lt_no]; rotate_left; (first | omega | (simp [lenOf, app]; omega) | (simp only [lenOf]; omega))) | (rw [idxA_at]; rotate_left; (first | omega | (simp [lenOf, app]; omega) | (simp only [lenOf]; omega))) | (rw [wr_up]; rotate_left; (first | omega | (simp [lenOf, app]; omega) | (simp only [lenOf]; omega))) | ((first | rw [drop_cI] | rw [drop_cE] | rw [drop_cS] | rw [drop_cP] | rw [drop_cR]); rotate_left; assumption)); try simp only [go_sem, ↓reduceIte, Nat.reduceAdd, Nat.reduceEqDiff, Nat.reduceLT, Nat.reduceLeDiff, Nat.reduceBEq, Int.reduceEq, Int.reduceLT, Int.reduceLE]))
  | succ k ih =>
    intro i acc hi ha
    have hlt : i < es.length := by omega
    obtain ⟨e, he, hd⟩ := getElem_drop hlt
    obtain ⟨a, b, ⟨lo, hi'⟩⟩ := e
    rw [hd, app_assoc]
    have hx := append_own (f := cE) (sz := 4) (fun _ => rfl) 32 p q (na (na N 1) 1) (.cells [i64 w, ownSl cE p acc, .sl0] :: .cells [i64 0, .sl0, .sl0] :: O) acc ⟨a, b, ⟨lo, hi'⟩⟩ [i64 a, i64 b, i64 lo, i64 hi'] rfl .full (by omega) (by omega)
    have h' := ih (i + 1) (app acc [⟨a, b, ⟨lo, hi'⟩⟩]) (by omega) (by simp [app]; omega)
    rw [lim_loop]
    generalize hR : some (_, _, _) = R at h' ⊢
    (try simp only [go_sem, ↓reduceIte, Nat.reduceAdd, Nat.reduceEqDiff, Nat.reduceLT, Nat.reduceLeDiff, Nat.reduceBEq, Int.reduceEq, Int.reduceLT, Int.reduceLE]); (repeat ((first | rw [hx] | (rw [lt_yes]; rotate_left; (first | omega | (simp [lenOf, app]; omega) | (simp only [lenOf]; omega))) | (rw [lt_no]; rotate_left; (first | omega | (simp [lenOf, app]; omega) | (simp only [lenOf]; omega))) | (rw [idxA_at]; rotate_left; (first | omega | (simp [lenOf, app]; omega) | (simp only [lenOf]; omega))) | (rw [wr_up]; rotate_left; (first | omega | (simp [lenOf, app]; omega) | (simp only [lenOf]; omega))) | ((first | rw [drop_cI] | rw [drop_cE] | rw [drop_cS] | rw [drop_cP] | rw [drop_cR]); rotate_left; assumption)); try simp only [go_sem, ↓reduceIte, Nat.reduceAdd, Nat.reduceEqDiff, Nat.reduceLT, Nat.reduceLeDiff, Nat.reduceBEq, Int.reduceEq, Int.reduceLT, Int.reduceLE]))
    exact h'
theorem l24_1 (w : Int) (es : List Ent) (ss : List Say) (hl : ss.length < 1000000) (N : Nat) (O : List AObj) (p : Nat) (q : Nat → Nat) (v : AVal) : ∀ (k i : Nat) (acc : List Say), i + k = ss.length → acc.length = i →
   lim tbl (.loop a24_l1 68 ⟨[1, 2, 3, 5], [2, 3], []⟩ [.vref [i64 w, sl cE es, sl cS ss], .ptr N 0, .ptr (na N 1) 0, i64 (Int.ofNat i)])
     ⟨na (na N 1) 1, .cells [i64 w, v, ownSl cS p acc] :: .cells [i64 0, .sl0, .sl0] :: O, roomP p (lenOf acc), roomC p q (lenOf acc)⟩
   = some (.exit 2, [.ptr N 0, .ptr (na N 1) 0],
     ⟨na (na N 1) 1, .cells [i64 w, v, ownSl cS p (app acc (ss.drop i))] :: .cells [i64 0, .sl0, .sl0] :: O, roomP p (lenOf (app acc (ss.drop i))), roomC p q (lenOf (app acc (ss.drop i)))⟩) := by
  intro k
  induction k with
  | zero =>
    intro i acc hi ha
    rw [List.drop_eq_nil_of_le (by omega), app_nil, lim_loop]
    (try simp only [go_sem, ↓reduceIte, Nat.reduceAdd, Nat.reduceEqDiff, Nat.reduceLT, Nat.reduceLeDiff, Nat.reduceBEq, Int.reduceEq, Int.reduceLT, Int.reduceLE]); (repeat ((first | (rw [lt_yes]; rotate_left; (first | omega | (simp [lenOf, app]; omega) | (simp only [lenOf]; omega))) | (rw [lt_no]; rotate_left; (first | omega | (simp [lenOf, app]; omega) | (simp only [lenOf]; omega))) | (rw [idxA_at]; rotate_left; (first | omega | (simp [lenOf, app]; omega) | (simp only [lenOf]; omega))) | (rw [wr_up]; rotate_left; (first | omega | (simp [lenOf, app]; omega) | (simp only [lenOf]; omega))) | ((first | rw [drop_cI] | rw [drop_cE] | rw [drop_cS] | rw [drop_cP] | rw [drop_cR]); rotate_left; assumption)); try simp only [go_sem, ↓reduceIte, Nat.reduceAdd, Nat.reduceEqDiff, Nat.reduceLT, Nat.reduceLeDiff, Nat.reduceBEq, Int.reduceEq, Int.reduceLT, Int.reduceLE]))
  | succ k ih =>
    intro i acc hi ha
    have hlt : i < ss.length := by omega
    obtain ⟨e, he, hd⟩ := getElem_drop hlt
    obtain ⟨a, ⟨lo, hi'⟩⟩ := e
    rw [hd, app_assoc]
    have hx := append_own (f := cS) (sz := 3) (fun _ => rfl) 24 p q (na (na N 1) 1) (.cells [i64 w, v, ownSl cS p acc] :: .cells [i64 0, .sl0, .sl0] :: O) acc ⟨a, ⟨lo, hi'⟩⟩ [i64 a, i64 lo, i64 hi'] rfl .full (by omega) (by omega)
    have h' := ih (i + 1) (app acc [⟨a, ⟨lo, hi'⟩⟩]) (by omega) (by simp [app]; omega)
    rw [lim_loop]
    generalize hR : some (_, _, _) = R at h' ⊢
    (try simp only [go_sem, ↓reduceIte, Nat.reduceAdd, Nat.reduceEqDiff, Nat.reduceLT, Nat.reduceLeDiff, Nat.reduceBEq, Int.reduceEq, Int.reduceLT, Int.reduceLE]); (repeat ((first | rw [hx] | (rw [lt_yes]; rotate_left; (first | omega | (simp [lenOf, app]; omega) | (simp only [lenOf]; omega))) | (rw [lt_no]; rotate_left; (first | omega | (simp [lenOf, app]; omega) | (simp only [lenOf]; omega))) | (rw [idxA_at]; rotate_left; (first | omega | (simp [lenOf, app]; omega) | (simp only [lenOf]; omega))) | (rw [wr_up]; rotate_left; (first | omega | (simp [lenOf, app]; omega) | (simp only [lenOf]; omega))) | ((first | rw [drop_cI] | rw [drop_cE] | rw [drop_cS] | rw [drop_cP] | rw [drop_cR]); rotate_left; assumption)); try simp only [go_sem, ↓reduceIte, Nat.reduceAdd, Nat.reduceEqDiff, Nat.reduceLT, Nat.reduceLeDiff, Nat.reduceBEq, Int.reduceEq, Int.reduceLT, Int.reduceLE]))
    exact h'
theorem nil_app {α : Type} (l : List α) : app [] l = l := rfl
theorem k24 (S : Slate) (hE : S.es.length < 1000000) (hS : S.ss.length < 1000000) (s : St) : lim tbl (.call 24 [vSl S]) s = some (.ret, [vSl S], s) := by
  obtain ⟨w, es, ss⟩ := S
  rw [lim_call tbl_24]; obtain ⟨N, O, p, q⟩ := s
  have h0 := l24_0 w es ss hE N O p q es.length 0 [] (by omega) rfl
  rw [List.drop_zero, nil_app, ownSl_nil, show lenOf ([] : List Ent) = 0 from rfl, roomP_0, roomC_0, ofNat_0] at h0
  have h1 := l24_1 w es ss hS N O (roomP p (lenOf es)) (roomC p q (lenOf es)) (ownSl cE p es) ss.length 0 [] (by omega) rfl
  rw [List.drop_zero, nil_app, ownSl_nil, show lenOf ([] : List Say) = 0 from rfl, roomP_0, roomC_0, ofNat_0] at h1
  (try simp only [go_sem, ↓reduceIte, Nat.reduceAdd, Nat.reduceEqDiff, Nat.reduceLT, Nat.reduceLeDiff, Nat.reduceBEq, Int.reduceEq, Int.reduceLT, Int.reduceLE]); (repeat ((first | rw [h0] | rw [h1] | (rw [lt_yes]; rotate_left; (first | omega | (simp [lenOf, app]; omega) | (simp only [lenOf]; omega))) | (rw [lt_no]; rotate_left; (first | omega | (simp [lenOf, app]; omega) | (simp only [lenOf]; omega))) | (rw [idxA_at]; rotate_left; (first | omega | (simp [lenOf, app]; omega) | (simp only [lenOf]; omega))) | (rw [wr_up]; rotate_left; (first | omega | (simp [lenOf, app]; omega) | (simp only [lenOf]; omega))) | ((first | rw [drop_cI] | rw [drop_cE] | rw [drop_cS] | rw [drop_cP] | rw [drop_cR]); rotate_left; assumption)); try simp only [go_sem, ↓reduceIte, Nat.reduceAdd, Nat.reduceEqDiff, Nat.reduceLT, Nat.reduceLeDiff, Nat.reduceBEq, Int.reduceEq, Int.reduceLT, Int.reduceLE]))
def thin (S : Slate) : Bool := !(decide (8 < lenOf S.es) || decide (7 < lenOf S.ss)) && (!decide (faultRef S = 0) || decide (manyRef 1 S.es ≤ 60))
@[go_sem] theorem k21 (S : Slate) (s : St) : lim tbl (.call 21 [vSl S]) s = some (.ret, [.bool (thin S)], s) := by
  obtain ⟨w, es, ss⟩ := S
  rw [lim_call tbl_21]; obtain ⟨N, O, p, q⟩ := s
  generalize hT : thin ⟨w, es, ss⟩ = T
  unfold thin at hT; simp only at hT
  by_cases h1 : 8 < lenOf es
  · have g1 : (8 : Int) < Int.ofNat (lenOf es) := by show (8 : Int) < (lenOf es : Int); omega
    simp [h1] at hT; subst hT
    (try simp only [go_sem, ↓reduceIte, Nat.reduceAdd, Nat.reduceEqDiff, Nat.reduceLT, Nat.reduceLeDiff, Nat.reduceBEq, Int.reduceEq, Int.reduceLT, Int.reduceLE]); (repeat ((first | rw [lt_y g1] | (rw [lt_yes]; rotate_left; (first | omega | (simp [lenOf, app]; omega) | (simp only [lenOf]; omega))) | (rw [lt_no]; rotate_left; (first | omega | (simp [lenOf, app]; omega) | (simp only [lenOf]; omega))) | (rw [idxA_at]; rotate_left; (first | omega | (simp [lenOf, app]; omega) | (simp only [lenOf]; omega))) | (rw [wr_up]; rotate_left; (first | omega | (simp [lenOf, app]; omega) | (simp only [lenOf]; omega))) | ((first | rw [drop_cI] | rw [drop_cE] | rw [drop_cS] | rw [drop_cP] | rw [drop_cR]); rotate_left; assumption)); try simp only [go_sem, ↓reduceIte, Nat.reduceAdd, Nat.reduceEqDiff, Nat.reduceLT, Nat.reduceLeDiff, Nat.reduceBEq, Int.reduceEq, Int.reduceLT, Int.reduceLE]))
  have g1 : ¬ (8 : Int) < Int.ofNat (lenOf es) := by show ¬ (8 : Int) < (lenOf es : Int); omega
  by_cases h2 : 7 < lenOf ss
  · have g2 : (7 : Int) < Int.ofNat (lenOf ss) := by show (7 : Int) < (lenOf ss : Int); omega
    simp [h1, h2] at hT; subst hT
    (try simp only [go_sem, ↓reduceIte, Nat.reduceAdd, Nat.reduceEqDiff, Nat.reduceLT, Nat.reduceLeDiff, Nat.reduceBEq, Int.reduceEq, Int.reduceLT, Int.reduceLE]); (repeat ((first | rw [lt_n g1] | rw [lt_y g2] | (rw [lt_yes]; rotate_left; (first | omega | (simp [lenOf, app]; omega) | (simp only [lenOf]; omega))) | (rw [lt_no]; rotate_left; (first | omega | (simp [lenOf, app]; omega) | (simp only [lenOf]; omega))) | (rw [idxA_at]; rotate_left; (first | omega | (simp [lenOf, app]; omega) | (simp only [lenOf]; omega))) | (rw [wr_up]; rotate_left; (first | omega | (simp [lenOf, app]; omega) | (simp only [lenOf]; omega))) | ((first | rw [drop_cI] | rw [drop_cE] | rw [drop_cS] | rw [drop_cP] | rw [drop_cR]); rotate_left; assumption)); try simp only [go_sem, ↓reduceIte, Nat.reduceAdd, Nat.reduceEqDiff, Nat.reduceLT, Nat.reduceLeDiff, Nat.reduceBEq, Int.reduceEq, Int.reduceLT, Int.reduceLE]))
  have g2 : ¬ (7 : Int) < Int.ofNat (lenOf ss) := by show ¬ (7 : Int) < (lenOf ss : Int); omega
  have h73 := fun s => k73 ⟨w, es, ss⟩ s
  have hl : es.length < 1000000 := by simp only [lenOf] at h1; omega
  have h51 := fun s => k51 ⟨w, es, ss⟩ hl s
  by_cases h3 : faultRef ⟨w, es, ss⟩ = 0
  · by_cases h4 : manyRef 1 es ≤ 60
    · simp [h1, h2, h3, h4] at hT; subst hT
      (try simp only [go_sem, ↓reduceIte, Nat.reduceAdd, Nat.reduceEqDiff, Nat.reduceLT, Nat.reduceLeDiff, Nat.reduceBEq, Int.reduceEq, Int.reduceLT, Int.reduceLE]); (repeat ((first | rw [lt_n g1] | rw [lt_n g2] | simp only [h73] | rw [eq_y h3] | simp only [h51] | rw [le_y h4] | (rw [lt_yes]; rotate_left; (first | omega | (simp [lenOf, app]; omega) | (simp only [lenOf]; omega))) | (rw [lt_no]; rotate_left; (first | omega | (simp [lenOf, app]; omega) | (simp only [lenOf]; omega))) | (rw [idxA_at]; rotate_left; (first | omega | (simp [lenOf, app]; omega) | (simp only [lenOf]; omega))) | (rw [wr_up]; rotate_left; (first | omega | (simp [lenOf, app]; omega) | (simp only [lenOf]; omega))) | ((first | rw [drop_cI] | rw [drop_cE] | rw [drop_cS] | rw [drop_cP] | rw [drop_cR]); rotate_left; assumption)); try simp only [go_sem, ↓reduceIte, Nat.reduceAdd, Nat.reduceEqDiff, Nat.reduceLT, Nat.reduceLeDiff, Nat.reduceBEq, Int.reduceEq, Int.reduceLT, Int.reduceLE]))
    · simp [h1, h2, h3, h4] at hT; subst hT
      (try simp only [go_sem, ↓reduceIte, Nat.reduceAdd, Nat.reduceEqDiff, Nat.reduceLT, Nat.reduceLeDiff, Nat.reduceBEq, Int.reduceEq, Int.reduceLT, Int.reduceLE]); (repeat ((first | rw [lt_n g1] | rw [lt_n g2] | simp only [h73] | rw [eq_y h3] | simp only [h51] | rw [le_n h4] | (rw [lt_yes]; rotate_left; (first | omega | (simp [lenOf, app]; omega) | (simp only [lenOf]; omega))) | (rw [lt_no]; rotate_left; (first | omega | (simp [lenOf, app]; omega) | (simp only [lenOf]; omega))) | (rw [idxA_at]; rotate_left; (first | omega | (simp [lenOf, app]; omega) | (simp only [lenOf]; omega))) | (rw [wr_up]; rotate_left; (first | omega | (simp [lenOf, app]; omega) | (simp only [lenOf]; omega))) | ((first | rw [drop_cI] | rw [drop_cE] | rw [drop_cS] | rw [drop_cP] | rw [drop_cR]); rotate_left; assumption)); try simp only [go_sem, ↓reduceIte, Nat.reduceAdd, Nat.reduceEqDiff, Nat.reduceLT, Nat.reduceLeDiff, Nat.reduceBEq, Int.reduceEq, Int.reduceLT, Int.reduceLE]))
  · simp [h1, h2, h3] at hT; subst hT
    (try simp only [go_sem, ↓reduceIte, Nat.reduceAdd, Nat.reduceEqDiff, Nat.reduceLT, Nat.reduceLeDiff, Nat.reduceBEq, Int.reduceEq, Int.reduceLT, Int.reduceLE]); (repeat ((first | rw [lt_n g1] | rw [lt_n g2] | simp only [h73] | rw [eq_n h3] | (rw [lt_yes]; rotate_left; (first | omega | (simp [lenOf, app]; omega) | (simp only [lenOf]; omega))) | (rw [lt_no]; rotate_left; (first | omega | (simp [lenOf, app]; omega) | (simp only [lenOf]; omega))) | (rw [idxA_at]; rotate_left; (first | omega | (simp [lenOf, app]; omega) | (simp only [lenOf]; omega))) | (rw [wr_up]; rotate_left; (first | omega | (simp [lenOf, app]; omega) | (simp only [lenOf]; omega))) | ((first | rw [drop_cI] | rw [drop_cE] | rw [drop_cS] | rw [drop_cP] | rw [drop_cR]); rotate_left; assumption)); try simp only [go_sem, ↓reduceIte, Nat.reduceAdd, Nat.reduceEqDiff, Nat.reduceLT, Nat.reduceLeDiff, Nat.reduceBEq, Int.reduceEq, Int.reduceLT, Int.reduceLE]))
@[go_sem] theorem k32 (S : Slate) (s : St) : lim tbl (.call 32 [vSl S]) s = some (.ret, [i64 (faultRef S)], s) := by
  have h73 := fun s => k73 S s
  obtain ⟨w, es, ss⟩ := S
  rw [lim_call tbl_32]; obtain ⟨N, O, p, q⟩ := s
  (try simp only [go_sem, ↓reduceIte, Nat.reduceAdd, Nat.reduceEqDiff, Nat.reduceLT, Nat.reduceLeDiff, Nat.reduceBEq, Int.reduceEq, Int.reduceLT, Int.reduceLE]); (repeat ((first | simp only [h73] | (rw [lt_yes]; rotate_left; (first | omega | (simp [lenOf, app]; omega) | (simp only [lenOf]; omega))) | (rw [lt_no]; rotate_left; (first | omega | (simp [lenOf, app]; omega) | (simp only [lenOf]; omega))) | (rw [idxA_at]; rotate_left; (first | omega | (simp [lenOf, app]; omega) | (simp only [lenOf]; omega))) | (rw [wr_up]; rotate_left; (first | omega | (simp [lenOf, app]; omega) | (simp only [lenOf]; omega))) | ((first | rw [drop_cI] | rw [drop_cE] | rw [drop_cS] | rw [drop_cP] | rw [drop_cR]); rotate_left; assumption)); try simp only [go_sem, ↓reduceIte, Nat.reduceAdd, Nat.reduceEqDiff, Nat.reduceLT, Nat.reduceLeDiff, Nat.reduceBEq, Int.reduceEq, Int.reduceLT, Int.reduceLE]))
end Go.Proofs.Ytlhfeiacigmliaa

/- The wash-house's soap: what the functions compute: all ounces, and all truths, of the document's answer. -/
namespace Go.Proofs.Ytlhfeiacigmliaa
open Go
set_option maxRecDepth 10000

/-- More blocks, nothing old changed. -/
def Ext (N : Nat) (O : List AObj) (M : Nat) (Q : List AObj) : Prop := ∃ l, M = N + l.length ∧ Q = l ++ O
theorem Ext.refl (N : Nat) (O : List AObj) : Ext N O N O := ⟨[], by simp, rfl⟩
theorem Ext.push {N : Nat} {O : List AObj} {M : Nat} {Q : List AObj} (o : AObj) (h : Ext (na N 1) (o :: O) M Q) : Ext N O M Q := by
  obtain ⟨l, h1, h2⟩ := h
  refine ⟨l ++ [o], ?_, by simp [h2]⟩
  rw [h1]; simp [na]; omega
theorem Ext.trans {N : Nat} {O : List AObj} {M : Nat} {Q : List AObj} {M' : Nat} {Q' : List AObj} (h : Ext N O M Q) (h' : Ext M Q M' Q') : Ext N O M' Q' := by
  obtain ⟨l, h1, h2⟩ := h
  obtain ⟨l', h1', h2'⟩ := h'
  exact ⟨l' ++ l, by simp; omega, by simp [h2, h2']⟩
theorem Ext.old {N : Nat} {O : List AObj} {M : Nat} {Q : List AObj} (h : Ext N O M Q) (p : Nat) (q : Nat → Nat) (p' k : Nat) : Ytlhfeiacigmliaa.old ⟨N, O, p, q⟩ ⟨M, Q, p', roomC p q k⟩ = true := by
  obtain ⟨l, h1, h2⟩ := h
  subst h2; exact old_room h1 (roomC_old p q k)
theorem Ext.old0 {N : Nat} {O : List AObj} {M : Nat} {Q : List AObj} (h : Ext N O M Q) (p : Nat) (q : Nat → Nat) : Ytlhfeiacigmliaa.old ⟨N, O, p, q⟩ ⟨M, Q, p, q⟩ = true := by
  obtain ⟨l, h1, h2⟩ := h
  subst h2; exact old_of h1

/-- A good entry's ounces. -/
def OkE (es : List Ent) : Prop := ∀ e ∈ es, 0 ≤ e.oz.lo ∧ e.oz.lo ≤ e.oz.hi ∧ e.oz.hi ≤ 40
def szN (lo hi : Int) : Nat := (hi - lo + 1).toNat
def nthRef : List Ent → Nat → List Int
  | [], _ => []
  | e :: es, n => (e.oz.lo + Int.ofNat (bmod n (szN e.oz.lo e.oz.hi))) :: nthRef es (n / szN e.oz.lo e.oz.hi)
theorem size_ok {lo hi : Int} (h0 : 0 ≤ lo) (h : lo ≤ hi) (h' : hi ≤ 40) : size ⟨lo, hi⟩ = Int.ofNat (szN lo hi) := by
  unfold size szN
  simp only
  rw [wr_in (n := hi - lo) (by omega) (by omega), wr_in (by omega) (by omega)]
  simp; omega
theorem szN_pos {lo hi : Int} (h : lo ≤ hi) : szN lo hi ≠ 0 := by unfold szN; omega
theorem l50 (w : Int) (es : List Ent) (ss : List Say) (hE : es.length < 1000000) (ho : OkE es) (p : Nat) (q : Nat → Nat) : ∀ (k i n : Nat) (acc : List Int) (N : Nat) (O : List AObj), i + k = es.length → acc.length = i → n < 1000000000 →
   ∃ M Q, Ext N O M Q ∧ lim tbl (.loop a50_l0 36 ⟨[1, 2, 5, 6], [5], []⟩ [i64 (Int.ofNat n), .vref [i64 w, sl cE es, sl cS ss], ownSl cI p acc, i64 (Int.ofNat i)]) ⟨N, O, roomP p (lenOf acc), roomC p q (lenOf acc)⟩
     = some (.exit 0, [ownSl cI p (app acc (nthRef (es.drop i) n))], ⟨M, Q, roomP p (lenOf (app acc (nthRef (es.drop i) n))), roomC p q (lenOf (app acc (nthRef (es.drop i) n)))⟩) := by
  intro k
  induction k with
  | zero =>
    intro i n acc N O hi ha hn
    refine ⟨N, O, Ext.refl .., ?_⟩
    rw [List.drop_eq_nil_of_le (by omega), nthRef, app_nil, lim_loop]
    (try simp only [go_sem, ↓reduceIte, Nat.reduceAdd, Nat.reduceEqDiff, Nat.reduceLT, Nat.reduceLeDiff, Nat.reduceBEq, Int.reduceEq, Int.reduceLT, Int.reduceLE]); (repeat ((first | (rw [lt_yes]; rotate_left; (first | omega | (simp [lenOf, app]; omega) | (simp only [lenOf]; omega))) | (rw [lt_no]; rotate_left; (first | omega | (simp [lenOf, app]; omega) | (simp only [lenOf]; omega))) | (rw [idxA_at]; rotate_left; (first | omega | (simp [lenOf, app]; omega) | (simp only [lenOf]; omega))) | (rw [wr_up]; rotate_left; (first | omega | (simp [lenOf, app]; omega) | (simp only [lenOf]; omega))) | ((first | rw [drop_cI] | rw [drop_cE] | rw [drop_cS] | rw [drop_cP] | rw [drop_cR]); rotate_left; assumption)); try simp only [go_sem, ↓reduceIte, Nat.reduceAdd, Nat.reduceEqDiff, Nat.reduceLT, Nat.reduceLeDiff, Nat.reduceBEq, Int.reduceEq, Int.reduceLT, Int.reduceLE]))
  | succ k ih =>
    intro i n acc N O hi ha hn
    have hlt : i < es.length := by omega
    obtain ⟨e, he, hd⟩ := getElem_drop hlt
    have hok := ho e (List.mem_of_getElem? he)
    obtain ⟨a, b, ⟨lo, hi'⟩⟩ := e
    simp only at hok
    rw [hd, nthRef, app_assoc]
    simp only
    have hs := size_ok hok.1 hok.2.1 hok.2.2
    have hp := szN_pos hok.2.1
    have hdv := Nat.div_le_self n (szN lo hi')
    obtain ⟨M, Q, hx, h'⟩ := ih (i + 1) (n / szN lo hi') (app acc [lo + Int.ofNat (bmod n (szN lo hi'))]) (na N 1) (.cells [i64 lo, i64 hi'] :: O) (by omega) (by simp [app]; omega) (by omega)
    refine ⟨M, Q, hx.push, ?_⟩
    have happ := append_own (f := cI) (sz := 1) (fun _ => rfl) 8 p q (na N 1) (.cells [i64 lo, i64 hi'] :: O) acc (lo + Int.ofNat (bmod n (szN lo hi'))) [i64 (lo + Int.ofNat (bmod n (szN lo hi')))] rfl .full (by omega) (by omega)
    have hw : wr .i64 (Int.add lo (Int.ofNat (bmod n (szN lo hi')))) = lo + Int.ofNat (bmod n (szN lo hi')) := by
      have hm : n % szN lo hi' < szN lo hi' := Nat.mod_lt _ (Nat.pos_of_ne_zero hp)
      have hz : szN lo hi' ≤ 41 := by unfold szN; omega
      rw [fold_add, wr_in] <;> simp [bmod] <;> omega
    have hrem : remI (Int.ofNat n) (Int.ofNat (szN lo hi')) = some (i64 (Int.ofNat (bmod n (szN lo hi')))) := rem_at hp
    have hquo : quoI (Int.ofNat n) (Int.ofNat (szN lo hi')) = some (i64 (Int.ofNat (n / szN lo hi'))) := quo_at hp (by omega)
    generalize lo + Int.ofNat (bmod n (szN lo hi')) = x at h' happ hw ⊢
    generalize n / szN lo hi' = y at h' hquo ⊢
    rw [lim_loop]
    generalize hR : some (_, _, _) = R at h' ⊢
    (try simp only [go_sem, ↓reduceIte, Nat.reduceAdd, Nat.reduceEqDiff, Nat.reduceLT, Nat.reduceLeDiff, Nat.reduceBEq, Int.reduceEq, Int.reduceLT, Int.reduceLE]); (repeat ((first | simp only [hs] | rw [hrem] | rw [hw] | rw [happ] | rw [hquo] | (rw [lt_yes]; rotate_left; (first | omega | (simp [lenOf, app]; omega) | (simp only [lenOf]; omega))) | (rw [lt_no]; rotate_left; (first | omega | (simp [lenOf, app]; omega) | (simp only [lenOf]; omega))) | (rw [idxA_at]; rotate_left; (first | omega | (simp [lenOf, app]; omega) | (simp only [lenOf]; omega))) | (rw [wr_up]; rotate_left; (first | omega | (simp [lenOf, app]; omega) | (simp only [lenOf]; omega))) | ((first | rw [drop_cI] | rw [drop_cE] | rw [drop_cS] | rw [drop_cP] | rw [drop_cR]); rotate_left; assumption)); try simp only [go_sem, ↓reduceIte, Nat.reduceAdd, Nat.reduceEqDiff, Nat.reduceLT, Nat.reduceLeDiff, Nat.reduceBEq, Int.reduceEq, Int.reduceLT, Int.reduceLE]))
    exact h'
theorem k50 (S : Slate) (n : Nat) (hE : S.es.length < 1000000) (ho : OkE S.es) (hn : n < 1000000000) (s : St) : lim tbl (.call 50 [vSl S, i64 (Int.ofNat n)]) s = some (.ret, [sl cI (nthRef S.es n)], s) := by
  obtain ⟨w, es, ss⟩ := S
  rw [lim_call tbl_50]; obtain ⟨N, O, p, q⟩ := s
  obtain ⟨M, Q, hx, h0⟩ := l50 w es ss hE ho p q es.length 0 n [] N O (by omega) rfl hn
  rw [List.drop_zero, nil_app, ownSl_nil, show lenOf ([] : List Int) = 0 from rfl, roomP_0, roomC_0, ofNat_0] at h0
  have hold := hx.old p q (roomP p (lenOf (nthRef es n))) (lenOf (nthRef es n))
  (try simp only [go_sem, ↓reduceIte, Nat.reduceAdd, Nat.reduceEqDiff, Nat.reduceLT, Nat.reduceLeDiff, Nat.reduceBEq, Int.reduceEq, Int.reduceLT, Int.reduceLE]); (repeat ((first | rw [h0] | rw [hold] | (rw [lt_yes]; rotate_left; (first | omega | (simp [lenOf, app]; omega) | (simp only [lenOf]; omega))) | (rw [lt_no]; rotate_left; (first | omega | (simp [lenOf, app]; omega) | (simp only [lenOf]; omega))) | (rw [idxA_at]; rotate_left; (first | omega | (simp [lenOf, app]; omega) | (simp only [lenOf]; omega))) | (rw [wr_up]; rotate_left; (first | omega | (simp [lenOf, app]; omega) | (simp only [lenOf]; omega))) | ((first | rw [drop_cI] | rw [drop_cE] | rw [drop_cS] | rw [drop_cP] | rw [drop_cR]); rotate_left; assumption)); try simp only [go_sem, ↓reduceIte, Nat.reduceAdd, Nat.reduceEqDiff, Nat.reduceLT, Nat.reduceLeDiff, Nat.reduceBEq, Int.reduceEq, Int.reduceLT, Int.reduceLE]))
theorem nthRef_len : ∀ (es : List Ent) (n : Nat), (nthRef es n).length = es.length
  | [], _ => rfl
  | e :: es, n => by simp [nthRef, nthRef_len es]

/-- What is put together for some numbers. -/
def upto {α : Type} (f : Nat → List α) (i k : Nat) : List α := (List.range' i k).flatMap f
theorem upto_0 {α : Type} (f : Nat → List α) (i : Nat) : upto f i 0 = [] := rfl
theorem upto_s {α : Type} (f : Nat → List α) (i k : Nat) : upto f i (k + 1) = f i ++ upto f (i + 1) k := by simp [upto, List.range'_succ]
theorem app_app {α : Type} (a b c : List α) : app a (b ++ c) = app (app a b) c := by simp [app]

/-- All sayings that are right with some ounces, by bits. -/
def rightN (S : Slate) (L : List Int) : Nat := orUp (rightOk S.es L) 0 0 S.ss
theorem k88' (S : Slate) (n : Nat) (hE : S.es.length < 1000000) (hS : S.ss.length < 60) (s : St) : lim tbl (.call 88 [vSl S, sl cI (nthRef S.es n)]) s = some (.ret, [i64 (Int.ofNat (rightN S (nthRef S.es n)))], s) :=
  k88 S _ hE (nthRef_len _ _) hS s
def allRef (S : Slate) (m : Nat) : List Int := upto (fun n => [Int.ofNat (rightN S (nthRef S.es n))]) 0 m
theorem l42 (S : Slate) (hE : S.es.length < 1000000) (hS : S.ss.length < 60) (ho : OkE S.es) (m : Nat) (hm : m < 10000) (hM : manyRef 1 S.es = Int.ofNat m) (N : Nat) (O : List AObj) (p : Nat) (q : Nat → Nat) : ∀ (k i : Nat) (acc : List Int), i + k = m → acc.length = i →
   lim tbl (.loop a42_l0 20 ⟨[1, 3, 4], [3], []⟩ [.vref [i64 S.women, sl cE S.es, sl cS S.ss], ownSl cI p acc, i64 (Int.ofNat i)]) ⟨N, O, roomP p (lenOf acc), roomC p q (lenOf acc)⟩
     = some (.exit 0, [ownSl cI p (app acc (upto (fun n => [Int.ofNat (rightN S (nthRef S.es n))]) i k))], ⟨N, O, roomP p (lenOf (app acc (upto (fun n => [Int.ofNat (rightN S (nthRef S.es n))]) i k))), roomC p q (lenOf (app acc (upto (fun n => [Int.ofNat (rightN S (nthRef S.es n))]) i k)))⟩) := by
  intro k
  have h51 := fun s => k51 S hE s
  have h88 := fun n s => k88' S n hE hS s
  rw [hM] at h51
  induction k with
  | zero =>
    intro i acc hi ha
    obtain ⟨w, es, ss⟩ := S
    rw [upto_0, app_nil, lim_loop]
    (try simp only [go_sem, ↓reduceIte, Nat.reduceAdd, Nat.reduceEqDiff, Nat.reduceLT, Nat.reduceLeDiff, Nat.reduceBEq, Int.reduceEq, Int.reduceLT, Int.reduceLE]); (repeat ((first | simp only [h51] | (rw [lt_yes]; rotate_left; (first | omega | (simp [lenOf, app]; omega) | (simp only [lenOf]; omega))) | (rw [lt_no]; rotate_left; (first | omega | (simp [lenOf, app]; omega) | (simp only [lenOf]; omega))) | (rw [idxA_at]; rotate_left; (first | omega | (simp [lenOf, app]; omega) | (simp only [lenOf]; omega))) | (rw [wr_up]; rotate_left; (first | omega | (simp [lenOf, app]; omega) | (simp only [lenOf]; omega))) | ((first | rw [drop_cI] | rw [drop_cE] | rw [drop_cS] | rw [drop_cP] | rw [drop_cR]); rotate_left; assumption)); try simp only [go_sem, ↓reduceIte, Nat.reduceAdd, Nat.reduceEqDiff, Nat.reduceLT, Nat.reduceLeDiff, Nat.reduceBEq, Int.reduceEq, Int.reduceLT, Int.reduceLE]))
  | succ k ih =>
    intro i acc hi ha
    have h50 := fun s => k50 S i hE ho (by omega) s
    have h' := ih (i + 1) (app acc [Int.ofNat (rightN S (nthRef S.es i))]) (by omega) (by simp [app]; omega)
    have happ := append_own (f := cI) (sz := 1) (fun _ => rfl) 8 p q N O acc (Int.ofNat (rightN S (nthRef S.es i))) [i64 (Int.ofNat (rightN S (nthRef S.es i)))] rfl .full (by omega) (by omega)
    rw [upto_s, app_app, lim_loop]
    generalize hR : some (_, _, _) = R at h' ⊢
    obtain ⟨w, es, ss⟩ := S
    simp only at h' happ h50 h88 h51 ⊢
    (try simp only [go_sem, ↓reduceIte, Nat.reduceAdd, Nat.reduceEqDiff, Nat.reduceLT, Nat.reduceLeDiff, Nat.reduceBEq, Int.reduceEq, Int.reduceLT, Int.reduceLE]); (repeat ((first | simp only [h51] | simp only [h50] | simp only [h88] | rw [happ] | (rw [lt_yes]; rotate_left; (first | omega | (simp [lenOf, app]; omega) | (simp only [lenOf]; omega))) | (rw [lt_no]; rotate_left; (first | omega | (simp [lenOf, app]; omega) | (simp only [lenOf]; omega))) | (rw [idxA_at]; rotate_left; (first | omega | (simp [lenOf, app]; omega) | (simp only [lenOf]; omega))) | (rw [wr_up]; rotate_left; (first | omega | (simp [lenOf, app]; omega) | (simp only [lenOf]; omega))) | ((first | rw [drop_cI] | rw [drop_cE] | rw [drop_cS] | rw [drop_cP] | rw [drop_cR]); rotate_left; assumption)); try simp only [go_sem, ↓reduceIte, Nat.reduceAdd, Nat.reduceEqDiff, Nat.reduceLT, Nat.reduceLeDiff, Nat.reduceBEq, Int.reduceEq, Int.reduceLT, Int.reduceLE]))
    exact h'
theorem k42 (S : Slate) (hE : S.es.length < 1000000) (hS : S.ss.length < 60) (ho : OkE S.es) (m : Nat) (hm : m < 10000) (hM : manyRef 1 S.es = Int.ofNat m) (s : St) : lim tbl (.call 42 [vSl S]) s = some (.ret, [sl cI (allRef S m)], s) := by
  rw [lim_call tbl_42]; obtain ⟨N, O, p, q⟩ := s
  have h0 := l42 S hE hS ho m hm hM N O p q m 0 [] (by omega) rfl
  rw [nil_app, ownSl_nil, show lenOf ([] : List Int) = 0 from rfl, roomP_0, roomC_0, ofNat_0] at h0
  change _ = some (_, [ownSl cI p (allRef S m)], (⟨N, O, roomP p (lenOf (allRef S m)), roomC p q (lenOf (allRef S m))⟩ : St)) at h0
  generalize allRef S m = A at h0 ⊢
  obtain ⟨w, es, ss⟩ := S
  (try simp only [go_sem, ↓reduceIte, Nat.reduceAdd, Nat.reduceEqDiff, Nat.reduceLT, Nat.reduceLeDiff, Nat.reduceBEq, Int.reduceEq, Int.reduceLT, Int.reduceLE]); (repeat ((first | rw [h0] | (rw [lt_yes]; rotate_left; (first | omega | (simp [lenOf, app]; omega) | (simp only [lenOf]; omega))) | (rw [lt_no]; rotate_left; (first | omega | (simp [lenOf, app]; omega) | (simp only [lenOf]; omega))) | (rw [idxA_at]; rotate_left; (first | omega | (simp [lenOf, app]; omega) | (simp only [lenOf]; omega))) | (rw [wr_up]; rotate_left; (first | omega | (simp [lenOf, app]; omega) | (simp only [lenOf]; omega))) | ((first | rw [drop_cI] | rw [drop_cE] | rw [drop_cS] | rw [drop_cP] | rw [drop_cR]); rotate_left; assumption)); try simp only [go_sem, ↓reduceIte, Nat.reduceAdd, Nat.reduceEqDiff, Nat.reduceLT, Nat.reduceLeDiff, Nat.reduceBEq, Int.reduceEq, Int.reduceLT, Int.reduceLE]))
end Go.Proofs.Ytlhfeiacigmliaa

/- The wash-house's soap: what the functions compute: truths, bits and lists of the document's answer. -/
namespace Go.Proofs.Ytlhfeiacigmliaa
open Go
set_option maxRecDepth 10000

def cL (l : List Int) : List AVal := [sl cI l]
theorem weaks_cL1 (l : List Int) : weaks (cL l) = some (cL l) := by simp [cL, weaks, AVal.weak, weaks_cI]
@[go_sem] theorem frz1_own_cL (n : Nat) (s : St) (sz p : Nat) (l : List (List Int)) : frz1 n s sz (ownSl cL p l) = some (sl cL l) := frz1_ownSl weaks_cL1 ..
theorem drop_cL {l : List (List Int)} {i : Nat} {a : List Int} (h : l[i]? = some a) : List.drop (Nat.mul i 1) (cellsOf cL l) = sl cI a :: cellsOf cL (l.drop (i + 1)) := drop_cells (f := cL) (fun _ => rfl) h
theorem le_yes {a b : Nat} {inst : Decidable (Int.ofNat a ≤ Int.ofNat b)} (h : a ≤ b) : @decide (Int.ofNat a ≤ Int.ofNat b) inst = true := by
  apply decide_eq_true; show (a : Int) ≤ b; omega
theorem le_no {a b : Nat} {inst : Decidable (Int.ofNat a ≤ Int.ofNat b)} (h : b < a) : @decide (Int.ofNat a ≤ Int.ofNat b) inst = false := by
  apply decide_eq_false; show ¬ (a : Int) ≤ b; omega
theorem eqN_y {a b : Nat} {inst : Decidable (Int.ofNat a = Int.ofNat b)} (h : a = b) : @decide (Int.ofNat a = Int.ofNat b) inst = true := decide_eq_true (congrArg _ h)
theorem eqN_n {a b : Nat} {inst : Decidable (Int.ofNat a = Int.ofNat b)} (h : ¬ a = b) : @decide (Int.ofNat a = Int.ofNat b) inst = false := decide_eq_false fun e => h (Int.ofNat.inj e)

theorem upto_len {α : Type} {f : Nat → List α} (h : ∀ n, (f n).length ≤ 1) (i k : Nat) : (upto f i k).length ≤ k := by
  induction k generalizing i with
  | zero => simp [upto_0]
  | succ k ih => rw [upto_s, List.length_append]; have := h i; have := ih (i + 1); omega
def ints (l : List Nat) : List Int := l.map Int.ofNat
theorem map_get {l : List Nat} {i a : Nat} (h : l[i]? = some a) : (ints l)[i]? = some (Int.ofNat a) := by simp [ints, h]
theorem l89 (ns : List Nat) (m : Nat) (hl : ns.length < 1000000) (ha : ∀ a ∈ ns, a < 9223372036854775808) (hm : m < 9223372036854775808) (s : St) : ∀ (k i : Nat), i + k = ns.length → ∀ R,
   R = (if anyB (fun a => decide (band a m = m)) (ns.drop i) then some (.ret, [.bool true], s) else some (.exit 0, [], s)) →
   lim tbl (.loop a89_l0 20 ⟨[0, 1, 5], [], [4]⟩ [sl cI (ints ns), i64 (Int.ofNat m), i64 (Int.ofNat i)]) s = R := by
  intro k
  have hlm : lenOf (ints ns) = ns.length := by simp [lenOf, ints]
  induction k with
  | zero =>
    intro i hi R hR
    rw [List.drop_eq_nil_of_le (by omega)] at hR
    simp only [anyB, List.any_nil, Bool.false_eq_true, if_false] at hR
    rw [lim_loop]
    obtain ⟨N, O, p, q⟩ := s
    (try simp only [go_sem, ↓reduceIte, Nat.reduceAdd, Nat.reduceEqDiff, Nat.reduceLT, Nat.reduceLeDiff, Nat.reduceBEq, Int.reduceEq, Int.reduceLT, Int.reduceLE]); (repeat ((first | (rw [lt_yes]; rotate_left; (first | omega | (simp [lenOf, app]; omega) | (simp only [lenOf]; omega))) | (rw [lt_no]; rotate_left; (first | omega | (simp [lenOf, app]; omega) | (simp only [lenOf]; omega))) | (rw [idxA_at]; rotate_left; (first | omega | (simp [lenOf, app]; omega) | (simp only [lenOf]; omega))) | (rw [wr_up]; rotate_left; (first | omega | (simp [lenOf, app]; omega) | (simp only [lenOf]; omega))) | ((first | rw [drop_cI] | rw [drop_cE] | rw [drop_cS] | rw [drop_cP] | rw [drop_cR]); rotate_left; assumption)); try simp only [go_sem, ↓reduceIte, Nat.reduceAdd, Nat.reduceEqDiff, Nat.reduceLT, Nat.reduceLeDiff, Nat.reduceBEq, Int.reduceEq, Int.reduceLT, Int.reduceLE]))
    exact hR.symm
  | succ k ih =>
    intro i hi R hR
    have hlt : i < ns.length := by omega
    obtain ⟨a, hg, hd⟩ := getElem_drop hlt
    have hg' := map_get hg
    have hal := ha a (List.mem_of_getElem? hg)
    rw [hd] at hR
    have hb : bitsA .and .i64 (Int.ofNat a) (Int.ofNat m) = some (i64 (Int.ofNat (band a m))) := bits_and hal hm
    have h' := ih (i + 1) (by omega)
    rw [lim_loop]
    obtain ⟨N, O, p, q⟩ := s
    by_cases ht : band a m = m
    · simp only [anyB, List.any_cons, ht, decide_true, Bool.true_or, if_true] at hR
      (try simp only [go_sem, ↓reduceIte, Nat.reduceAdd, Nat.reduceEqDiff, Nat.reduceLT, Nat.reduceLeDiff, Nat.reduceBEq, Int.reduceEq, Int.reduceLT, Int.reduceLE]); (repeat ((first | rw [hb] | rw [eqN_y ht] | (rw [lt_yes]; rotate_left; (first | omega | (simp [lenOf, app]; omega) | (simp only [lenOf]; omega))) | (rw [lt_no]; rotate_left; (first | omega | (simp [lenOf, app]; omega) | (simp only [lenOf]; omega))) | (rw [idxA_at]; rotate_left; (first | omega | (simp [lenOf, app]; omega) | (simp only [lenOf]; omega))) | (rw [wr_up]; rotate_left; (first | omega | (simp [lenOf, app]; omega) | (simp only [lenOf]; omega))) | ((first | rw [drop_cI] | rw [drop_cE] | rw [drop_cS] | rw [drop_cP] | rw [drop_cR]); rotate_left; assumption)); try simp only [go_sem, ↓reduceIte, Nat.reduceAdd, Nat.reduceEqDiff, Nat.reduceLT, Nat.reduceLeDiff, Nat.reduceBEq, Int.reduceEq, Int.reduceLT, Int.reduceLE]))
      exact hR.symm
    · have hR' : R = (if anyB (fun a => decide (band a m = m)) (ns.drop (i + 1)) then some (.ret, [.bool true], ⟨N, O, p, q⟩) else some (.exit 0, [], ⟨N, O, p, q⟩)) := by
        rw [hR]; simp [anyB, ht]
      (try simp only [go_sem, ↓reduceIte, Nat.reduceAdd, Nat.reduceEqDiff, Nat.reduceLT, Nat.reduceLeDiff, Nat.reduceBEq, Int.reduceEq, Int.reduceLT, Int.reduceLE]); (repeat ((first | rw [hb] | rw [eqN_n ht] | (rw [lt_yes]; rotate_left; (first | omega | (simp [lenOf, app]; omega) | (simp only [lenOf]; omega))) | (rw [lt_no]; rotate_left; (first | omega | (simp [lenOf, app]; omega) | (simp only [lenOf]; omega))) | (rw [idxA_at]; rotate_left; (first | omega | (simp [lenOf, app]; omega) | (simp only [lenOf]; omega))) | (rw [wr_up]; rotate_left; (first | omega | (simp [lenOf, app]; omega) | (simp only [lenOf]; omega))) | ((first | rw [drop_cI] | rw [drop_cE] | rw [drop_cS] | rw [drop_cP] | rw [drop_cR]); rotate_left; assumption)); try simp only [go_sem, ↓reduceIte, Nat.reduceAdd, Nat.reduceEqDiff, Nat.reduceLT, Nat.reduceLeDiff, Nat.reduceBEq, Int.reduceEq, Int.reduceLT, Int.reduceLE]))
      exact h' R hR'
def can (ns : List Nat) (m : Nat) : Bool := anyB (fun a => decide (band a m = m)) ns
theorem k89 (ns : List Nat) (m : Nat) (hl : ns.length < 1000000) (ha : ∀ a ∈ ns, a < 9223372036854775808) (hm : m < 9223372036854775808) (s : St) : lim tbl (.call 89 [sl cI (ints ns), i64 (Int.ofNat m)]) s = some (.ret, [.bool (can ns m)], s) := by
  rw [lim_call tbl_89]
  have h0 := l89 ns m hl ha hm s ns.length 0 (by omega) _ rfl
  rw [List.drop_zero, ofNat_0] at h0
  change _ = (if can ns m then _ else _) at h0
  obtain ⟨N, O, p, q⟩ := s
  cases hc : can ns m with
  | true =>
    rw [hc] at h0; simp only [if_true] at h0
    (try simp only [go_sem, ↓reduceIte, Nat.reduceAdd, Nat.reduceEqDiff, Nat.reduceLT, Nat.reduceLeDiff, Nat.reduceBEq, Int.reduceEq, Int.reduceLT, Int.reduceLE]); (repeat ((first | rw [h0] | (rw [lt_yes]; rotate_left; (first | omega | (simp [lenOf, app]; omega) | (simp only [lenOf]; omega))) | (rw [lt_no]; rotate_left; (first | omega | (simp [lenOf, app]; omega) | (simp only [lenOf]; omega))) | (rw [idxA_at]; rotate_left; (first | omega | (simp [lenOf, app]; omega) | (simp only [lenOf]; omega))) | (rw [wr_up]; rotate_left; (first | omega | (simp [lenOf, app]; omega) | (simp only [lenOf]; omega))) | ((first | rw [drop_cI] | rw [drop_cE] | rw [drop_cS] | rw [drop_cP] | rw [drop_cR]); rotate_left; assumption)); try simp only [go_sem, ↓reduceIte, Nat.reduceAdd, Nat.reduceEqDiff, Nat.reduceLT, Nat.reduceLeDiff, Nat.reduceBEq, Int.reduceEq, Int.reduceLT, Int.reduceLE]))
  | false =>
    rw [hc] at h0; simp only [Bool.false_eq_true, if_false] at h0
    (try simp only [go_sem, ↓reduceIte, Nat.reduceAdd, Nat.reduceEqDiff, Nat.reduceLT, Nat.reduceLeDiff, Nat.reduceBEq, Int.reduceEq, Int.reduceLT, Int.reduceLE]); (repeat ((first | rw [h0] | (rw [lt_yes]; rotate_left; (first | omega | (simp [lenOf, app]; omega) | (simp only [lenOf]; omega))) | (rw [lt_no]; rotate_left; (first | omega | (simp [lenOf, app]; omega) | (simp only [lenOf]; omega))) | (rw [idxA_at]; rotate_left; (first | omega | (simp [lenOf, app]; omega) | (simp only [lenOf]; omega))) | (rw [wr_up]; rotate_left; (first | omega | (simp [lenOf, app]; omega) | (simp only [lenOf]; omega))) | ((first | rw [drop_cI] | rw [drop_cE] | rw [drop_cS] | rw [drop_cP] | rw [drop_cR]); rotate_left; assumption)); try simp only [go_sem, ↓reduceIte, Nat.reduceAdd, Nat.reduceEqDiff, Nat.reduceLT, Nat.reduceLeDiff, Nat.reduceBEq, Int.reduceEq, Int.reduceLT, Int.reduceLE]))

def sameL (a b : List Int) : Bool := decide (a = b)
theorem l43 (a b : List Int) (hl : a.length < 1000000) (hL : a.length = b.length) (s : St) : ∀ (k i : Nat), i + k = a.length → ∀ R,
   R = (if sameL (a.drop i) (b.drop i) then some (.exit 0, [], s) else some (.ret, [.bool false], s)) →
   lim tbl (.loop a43_l0 26 ⟨[0, 1, 5], [], [4]⟩ [sl cI a, sl cI b, i64 (Int.ofNat i)]) s = R := by
  intro k
  induction k with
  | zero =>
    intro i hi R hR
    rw [List.drop_eq_nil_of_le (by omega), List.drop_eq_nil_of_le (by omega)] at hR
    simp only [sameL, decide_true, if_true] at hR
    rw [lim_loop]
    obtain ⟨N, O, p, q⟩ := s
    (try simp only [go_sem, ↓reduceIte, Nat.reduceAdd, Nat.reduceEqDiff, Nat.reduceLT, Nat.reduceLeDiff, Nat.reduceBEq, Int.reduceEq, Int.reduceLT, Int.reduceLE]); (repeat ((first | (rw [lt_yes]; rotate_left; (first | omega | (simp [lenOf, app]; omega) | (simp only [lenOf]; omega))) | (rw [lt_no]; rotate_left; (first | omega | (simp [lenOf, app]; omega) | (simp only [lenOf]; omega))) | (rw [idxA_at]; rotate_left; (first | omega | (simp [lenOf, app]; omega) | (simp only [lenOf]; omega))) | (rw [wr_up]; rotate_left; (first | omega | (simp [lenOf, app]; omega) | (simp only [lenOf]; omega))) | ((first | rw [drop_cI] | rw [drop_cE] | rw [drop_cS] | rw [drop_cP] | rw [drop_cR]); rotate_left; assumption)); try simp only [go_sem, ↓reduceIte, Nat.reduceAdd, Nat.reduceEqDiff, Nat.reduceLT, Nat.reduceLeDiff, Nat.reduceBEq, Int.reduceEq, Int.reduceLT, Int.reduceLE]))
    exact hR.symm
  | succ k ih =>
    intro i hi R hR
    have hlt : i < a.length := by omega
    have hlt' : i < b.length := by omega
    obtain ⟨x, hx, hd⟩ := getElem_drop hlt
    obtain ⟨y, hy, hd'⟩ := getElem_drop hlt'
    rw [hd, hd'] at hR
    have hc := drop_cI hx
    have hc' := drop_cI hy
    have h' := ih (i + 1) (by omega)
    rw [lim_loop]
    obtain ⟨N, O, p, q⟩ := s
    by_cases ht : x = y
    · have hR' : R = (if sameL (a.drop (i + 1)) (b.drop (i + 1)) then some (.exit 0, [], ⟨N, O, p, q⟩) else some (.ret, [.bool false], ⟨N, O, p, q⟩)) := by
        rw [hR]; simp [sameL, ht]
      (try simp only [go_sem, ↓reduceIte, Nat.reduceAdd, Nat.reduceEqDiff, Nat.reduceLT, Nat.reduceLeDiff, Nat.reduceBEq, Int.reduceEq, Int.reduceLT, Int.reduceLE]); (repeat ((first | rw [hc] | rw [hc'] | rw [eq_y ht] | (rw [lt_yes]; rotate_left; (first | omega | (simp [lenOf, app]; omega) | (simp only [lenOf]; omega))) | (rw [lt_no]; rotate_left; (first | omega | (simp [lenOf, app]; omega) | (simp only [lenOf]; omega))) | (rw [idxA_at]; rotate_left; (first | omega | (simp [lenOf, app]; omega) | (simp only [lenOf]; omega))) | (rw [wr_up]; rotate_left; (first | omega | (simp [lenOf, app]; omega) | (simp only [lenOf]; omega))) | ((first | rw [drop_cI] | rw [drop_cE] | rw [drop_cS] | rw [drop_cP] | rw [drop_cR]); rotate_left; assumption)); try simp only [go_sem, ↓reduceIte, Nat.reduceAdd, Nat.reduceEqDiff, Nat.reduceLT, Nat.reduceLeDiff, Nat.reduceBEq, Int.reduceEq, Int.reduceLT, Int.reduceLE]))
      exact h' R hR'
    · simp only [sameL, List.cons.injEq, ht, false_and, decide_false, Bool.false_eq_true, if_false] at hR
      (try simp only [go_sem, ↓reduceIte, Nat.reduceAdd, Nat.reduceEqDiff, Nat.reduceLT, Nat.reduceLeDiff, Nat.reduceBEq, Int.reduceEq, Int.reduceLT, Int.reduceLE]); (repeat ((first | rw [hc] | rw [hc'] | rw [eq_n ht] | (rw [lt_yes]; rotate_left; (first | omega | (simp [lenOf, app]; omega) | (simp only [lenOf]; omega))) | (rw [lt_no]; rotate_left; (first | omega | (simp [lenOf, app]; omega) | (simp only [lenOf]; omega))) | (rw [idxA_at]; rotate_left; (first | omega | (simp [lenOf, app]; omega) | (simp only [lenOf]; omega))) | (rw [wr_up]; rotate_left; (first | omega | (simp [lenOf, app]; omega) | (simp only [lenOf]; omega))) | ((first | rw [drop_cI] | rw [drop_cE] | rw [drop_cS] | rw [drop_cP] | rw [drop_cR]); rotate_left; assumption)); try simp only [go_sem, ↓reduceIte, Nat.reduceAdd, Nat.reduceEqDiff, Nat.reduceLT, Nat.reduceLeDiff, Nat.reduceBEq, Int.reduceEq, Int.reduceLT, Int.reduceLE]))
      exact hR.symm
theorem k43 (a b : List Int) (hl : a.length < 1000000) (s : St) : lim tbl (.call 43 [sl cI a, sl cI b]) s = some (.ret, [.bool (sameL a b)], s) := by
  rw [lim_call tbl_43]
  by_cases hL : lenOf a = lenOf b
  · have h0 := l43 a b hl hL s a.length 0 (by omega) _ rfl
    rw [List.drop_zero, List.drop_zero, ofNat_0] at h0
    obtain ⟨N, O, p, q⟩ := s
    cases hc : sameL a b with
    | true =>
      rw [hc] at h0; simp only [if_true] at h0
      (try simp only [go_sem, ↓reduceIte, Nat.reduceAdd, Nat.reduceEqDiff, Nat.reduceLT, Nat.reduceLeDiff, Nat.reduceBEq, Int.reduceEq, Int.reduceLT, Int.reduceLE]); (repeat ((first | rw [eqN_y hL] | rw [h0] | (rw [lt_yes]; rotate_left; (first | omega | (simp [lenOf, app]; omega) | (simp only [lenOf]; omega))) | (rw [lt_no]; rotate_left; (first | omega | (simp [lenOf, app]; omega) | (simp only [lenOf]; omega))) | (rw [idxA_at]; rotate_left; (first | omega | (simp [lenOf, app]; omega) | (simp only [lenOf]; omega))) | (rw [wr_up]; rotate_left; (first | omega | (simp [lenOf, app]; omega) | (simp only [lenOf]; omega))) | ((first | rw [drop_cI] | rw [drop_cE] | rw [drop_cS] | rw [drop_cP] | rw [drop_cR]); rotate_left; assumption)); try simp only [go_sem, ↓reduceIte, Nat.reduceAdd, Nat.reduceEqDiff, Nat.reduceLT, Nat.reduceLeDiff, Nat.reduceBEq, Int.reduceEq, Int.reduceLT, Int.reduceLE]))
    | false =>
      rw [hc] at h0; simp only [Bool.false_eq_true, if_false] at h0
      (try simp only [go_sem, ↓reduceIte, Nat.reduceAdd, Nat.reduceEqDiff, Nat.reduceLT, Nat.reduceLeDiff, Nat.reduceBEq, Int.reduceEq, Int.reduceLT, Int.reduceLE]); (repeat ((first | rw [eqN_y hL] | rw [h0] | (rw [lt_yes]; rotate_left; (first | omega | (simp [lenOf, app]; omega) | (simp only [lenOf]; omega))) | (rw [lt_no]; rotate_left; (first | omega | (simp [lenOf, app]; omega) | (simp only [lenOf]; omega))) | (rw [idxA_at]; rotate_left; (first | omega | (simp [lenOf, app]; omega) | (simp only [lenOf]; omega))) | (rw [wr_up]; rotate_left; (first | omega | (simp [lenOf, app]; omega) | (simp only [lenOf]; omega))) | ((first | rw [drop_cI] | rw [drop_cE] | rw [drop_cS] | rw [drop_cP] | rw [drop_cR]); rotate_left; assumption)); try simp only [go_sem, ↓reduceIte, Nat.reduceAdd, Nat.reduceEqDiff, Nat.reduceLT, Nat.reduceLeDiff, Nat.reduceBEq, Int.reduceEq, Int.reduceLT, Int.reduceLE]))
  · have : sameL a b = false := by
      simp only [sameL, decide_eq_false_iff_not]; intro h; subst h; exact hL rfl
    rw [this]
    obtain ⟨N, O, p, q⟩ := s
    (try simp only [go_sem, ↓reduceIte, Nat.reduceAdd, Nat.reduceEqDiff, Nat.reduceLT, Nat.reduceLeDiff, Nat.reduceBEq, Int.reduceEq, Int.reduceLT, Int.reduceLE]); (repeat ((first | rw [eqN_n hL] | (rw [lt_yes]; rotate_left; (first | omega | (simp [lenOf, app]; omega) | (simp only [lenOf]; omega))) | (rw [lt_no]; rotate_left; (first | omega | (simp [lenOf, app]; omega) | (simp only [lenOf]; omega))) | (rw [idxA_at]; rotate_left; (first | omega | (simp [lenOf, app]; omega) | (simp only [lenOf]; omega))) | (rw [wr_up]; rotate_left; (first | omega | (simp [lenOf, app]; omega) | (simp only [lenOf]; omega))) | ((first | rw [drop_cI] | rw [drop_cE] | rw [drop_cS] | rw [drop_cP] | rw [drop_cR]); rotate_left; assumption)); try simp only [go_sem, ↓reduceIte, Nat.reduceAdd, Nat.reduceEqDiff, Nat.reduceLT, Nat.reduceLeDiff, Nat.reduceBEq, Int.reduceEq, Int.reduceLT, Int.reduceLE]))
end Go.Proofs.Ytlhfeiacigmliaa
