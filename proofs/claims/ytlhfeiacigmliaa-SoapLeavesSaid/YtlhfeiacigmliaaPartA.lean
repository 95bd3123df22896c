/- The evaluator: abstract values, abstract heap, small code, and how it runs. Nothing of the model is changed; soundness is proved in the files behind this one. -/
import GoSem.Step
import Derived.WalkKit
import Derived.ChangeKeysEq
set_option linter.all false
namespace Go.Proofs.Ytlhfeiacigmliaa
open Go

/-- What is known of the room behind an immutable slice. -/
inductive Perm where
  | no | full | own (p : Nat)
  deriving DecidableEq, Inhabited

/-- Abstract values: slices that are never written are lists of cells. -/
inductive AVal where
  | bool (b : Bool)
  | int (k : IntKind) (n : Int)
  | str (s : ByteArray)
  | nilp
  | ptr (b off : Nat)
  | vref (cs : List AVal)
  | sl0
  | vsl (cs : List AVal) (len : Nat) (perm : Perm)
  | hsl (b off len : Nat) (cap : Option Nat)
  | map (b : Nat)
  | nilm
  | fn (f : Fn) (first cap : List AVal)
  | yld (b : Nat)
  | nilf
  | iface (t : TypeId) (v : AVal)
  | nili
  | agg (cs : List AVal)
  | tup (vs : List AVal)
  deriving Inhabited

def undefA : AVal := .tup []
/-- Nothing is known. -/
def anyA : AVal := .tup [.tup []]
def AVal.isAny : AVal → Bool
  | .tup [.tup []] => true
  | _ => false
def AVal.isAgg : AVal → Bool
  | .agg _ => true
  | _ => false
def AVal.isTup : AVal → Bool
  | .tup _ => true
  | _ => false
def AVal.cells : AVal → List AVal
  | .agg cs => cs
  | v => [v]

inductive AOpd where
  | tmp (t : Nat)
  | const (v : AVal)
  deriving Inhabited

inductive AOp where
  | move (x : AOpd)
  | pick (c a b : AOpd)
  | alloc (zero : List AVal)
  | box (x : AOpd)
  | boxI (x : AOpd)
  | build (zero : List AVal) (parts : List (Nat × Nat × AOpd))
  | buildSl (zero : List AVal) (len : Nat) (parts : List (Nat × Nat × AOpd))
  | buildHs (zero : List AVal) (len : Nat) (parts : List (Nat × Nat × AOpd))
  | load1 (a : AOpd)
  | loadn (n : Nat) (a : AOpd)
  | store (n : Nat) (a x : AOpd)
  | nilCheck (x : AOpd)
  | bin (op : BinOp) (x y : AOpd)
  | eqagg (neg : Bool) (kinds : List Nat) (x y : AOpd)
  | eqb (neg : Bool) (x y : AOpd)
  | eqnil (kind : Nat) (neg : Bool) (x y : AOpd)
  | un (op : UnOp) (x : AOpd)
  | conv (k : IntKind) (x : AOpd)
  | mkFn (f : Fn) (first cap : List AOpd)
  | mkMap (kagg : Bool)
  | mkSlice (zero : List AVal) (bytes : Nat) (len cap : AOpd)
  | slice (sz : Nat) (x : AOpd) (lo hi mx : Option AOpd)
  | sliceArr (n sz : Nat) (x : AOpd) (lo hi mx : Option AOpd)
  | fieldAddr (off : Nat) (x : AOpd)
  | field (agg : Bool) (off size : Nat) (x : AOpd)
  | indexArr (n sz : Nat) (x i : AOpd)
  | indexSl (sz : Nat) (x i : AOpd)
  | index (n : Nat) (agg : Bool) (sz : Nat) (x i : AOpd)
  | lookup (kagg : Bool) (kinds : List Nat) (zero : AVal) (ok : Bool) (m k : AOpd)
  | mapUpdate (kagg : Bool) (kinds : List Nat) (m k v : AOpd)
  | extract (x : AOpd) (i : Nat)
  | call (f : FuncId) (args : List AOpd)
  | callv (x : AOpd) (args : List AOpd)
  | len (x : AOpd)
  | lenArr (n : Nat) (x : AOpd)
  | append (sz bytes : Nat) (a x : AOpd)
  | appendHs (sz bytes : Nat) (a x : AOpd)
  | maxmin (isMax : Bool) (args : List AOpd)
  | stuck
  deriving Inhabited

structure AInstr where
  dst : Option Nat
  guard : Option (Nat × Bool)
  op : AOp
  deriving Inhabited

inductive AExit where
  | normal
  | exit (id : Nat)
  | ret
  deriving DecidableEq, Inhabited

/-- What a loop keeps of the frame: at its head, when it is left by an exit, when the function returns. -/
structure Keep where
  head : List Nat
  ex : List Nat
  rt : List Nat
  deriving Inhabited
def Keep.at_ (k : Keep) : AExit → List Nat
  | .normal => k.head
  | .exit _ => k.ex
  | .ret => k.rt

/-- `rg` of an instruction of a region that draws: how many heavy operations are surely done before it, and how many may be. -/
inductive ACode where
  | skip
  | ops (l : List AInstr)
  | dops (l : List (AInstr × Nat × Nat))
  | seq (a b : ACode)
  | cond (c : AOpd) (a b : ACode)
  | block (id : Nat) (c : ACode)
  | loop (keep : Keep) (c : ACode)
  | rangeFunc (f : AOpd) (params : List Nat) (assign body : ACode)
  | exit (id : Nat)
  | ret
  | stuck
  deriving Inhabited

structure ALoop where
  state : LoopState
  pending : Option AExit
  fr : List AVal
  params : List Nat
  assign : ACode
  body : ACode
  deriving Inhabited

inductive AObj where
  | cells (cs : List AVal)
  | map (kagg : Bool) (es : List (List AVal × AVal))
  | loop (l : ALoop)
  deriving Inhabited

/-- The abstract heap: the newest block first; block `b` lies at place `n - 1 - b`. -/
structure St where
  n : Nat
  objs : List AObj
  pn : Nat
  cur : Nat → Nat
  deriving Inhabited

def St.get (s : St) (b : Nat) : Option AObj := if b < s.n then s.objs[s.n - 1 - b]? else none
def St.push (s : St) (o : AObj) : St := { s with n := s.n + 1, objs := o :: s.objs }
def St.set (s : St) (b : Nat) (o : AObj) : St := { s with objs := s.objs.set (s.n - 1 - b) o }
/-- A new room, for a slice of so many; a room's slice grows. -/
def St.fresh (s : St) (k : Nat) : St := { s with pn := s.pn + 1, cur := fun q => if q = s.pn then k else s.cur q }
def St.grow (s : St) (p k : Nat) : St := { s with cur := fun q => if q = p then k else s.cur q }
def St.empty : St := ⟨0, [], 0, fun _ => 0⟩

def AOpd.eval : AOpd → List AVal → AVal
  | .tmp t, fr => fr.getD t undefA
  | .const v, _ => v

def evals (l : List AOpd) (fr : List AVal) : List AVal := l.map fun x => x.eval fr

def lookN (s : St) (a : AVal) (n : Nat) : Option (List AVal) :=
  match a with
  | .vref cs => if n ≤ cs.length then some (cs.take n) else none
  | .ptr b off => match s.get b with
    | some (.cells cs) => if off + n ≤ cs.length then some ((cs.drop off).take n) else none
    | _ => none
  | _ => none

def look1 (s : St) (a : AVal) : Option AVal :=
  match a with
  | .vref (c :: _) => some c
  | .ptr b off => match s.get b with
    | some (.cells cs) => cs[off]?
    | _ => none
  | _ => none

def splice {α : Type} (cs : List α) (off : Nat) : List α → List α
  | [] => cs
  | v :: vs => splice (cs.set off v) (off + 1) vs

def storeN (s : St) (a : AVal) (new : List AVal) : Option St :=
  match a with
  | .ptr b off => match s.get b with
    | some (.cells cs) => if off + new.length ≤ cs.length then some (s.set b (.cells (splice cs off new))) else none
    | _ => none
  | _ => none

def kLo : IntKind → Int
  | .i8 => -128 | .i16 => -32768 | .i32 => -2147483648 | .i64 => -9223372036854775808
  | _ => 0
def kHi : IntKind → Int
  | .i8 => 127 | .i16 => 32767 | .i32 => 2147483647 | .i64 => 9223372036854775807
  | .u8 => 255 | .u16 => 65535 | .u32 => 4294967295 | .u64 => 18446744073709551615

/-- The value of a kind: itself where it fits. -/
def wr (k : IntKind) (n : Int) : Int := if kLo k ≤ n ∧ n ≤ kHi k then n else k.wrap n

def bitsA (op : BinOp) (k : IntKind) (x y : Int) : Option AVal :=
  let a := BitVec.ofInt k.bits x
  let b := BitVec.ofInt k.bits y
  match op with
  | .and => some (.int k (k.wrap (a &&& b).toNat))
  | .or => some (.int k (k.wrap (a ||| b).toNat))
  | .xor => some (.int k (k.wrap (a ^^^ b).toNat))
  | .andNot => some (.int k (k.wrap (a &&& ~~~b).toNat))
  | _ => none

def binInt (op : BinOp) (k : IntKind) (a b : Int) : Option AVal :=
  match op with
  | .add => some (.int k (wr k (a + b)))
  | .sub => some (.int k (wr k (a - b)))
  | .mul => some (.int k (wr k (a * b)))
  | .quo => if b = 0 then none else some (.int k (wr k (a.tdiv b)))
  | .rem => if b = 0 then none else some (.int k (a.tmod b))
  | .eql => some (.bool (a == b))
  | .neq => some (.bool (a != b))
  | .lss => some (.bool (decide (a < b)))
  | .leq => some (.bool (decide (a ≤ b)))
  | .gtr => some (.bool (decide (a > b)))
  | .geq => some (.bool (decide (a ≥ b)))
  | .shl => if b < 0 then none else some (.int k (wr k (a * 2 ^ (min b.toNat k.bits))))
  | .shr => if b < 0 then none else some (.int k (a.fdiv (2 ^ (min b.toNat k.bits))))
  | op => bitsA op k a b

def binA (op : BinOp) (x y : AVal) : Option AVal :=
  match x, y with
  | .int k a, .int k' b => if k = k' ∨ op = .shl ∨ op = .shr then binInt op k a b else none
  | .str a, .str b => match op with
    | .eql => some (.bool (a == b))
    | .neq => some (.bool (a != b))
    | _ => none
  | _, _ => none

/-- Two plain cells of a kind (0: integers, 1: bools, 2: strings), held against each other. -/
def eqCell (kind : Nat) (x y : AVal) : Option Bool :=
  match kind, x, y with
  | 0, .int k a, .int k' b => if k = k' then some (a == b) else none
  | 1, .bool a, .bool b => some (a == b)
  | 2, .str a, .str b => some (a == b)
  | _, _, _ => none

def eqCells : List Nat → List AVal → List AVal → Option Bool
  | [], [], [] => some true
  | k :: ks, x :: xs, y :: ys => match eqCell k x y, eqCells ks xs ys with
    | some a, some b => some (a && b)
    | _, _ => none
  | _, _, _ => none

/-- Held against nil: pointers (0), slices (1), maps (2), functions (3). -/
def eqNilA (kind : Nat) (x y : AVal) : Option Bool :=
  match kind with
  | 0 => match x, y with
    | .nilp, .nilp => some true
    | .nilp, .ptr .. | .nilp, .vref _ | .ptr .., .nilp | .vref _, .nilp => some false
    | _, _ => none
  | 1 => match x, y with
    | .sl0, .sl0 => some true
    | .sl0, .hsl .. | .hsl .., .sl0 => some false
    | .sl0, .vsl _ len _ | .vsl _ len _, .sl0 => if len = 0 then none else some false
    | _, _ => none
  | 2 => match x, y with
    | .nilm, .nilm => some true
    | .nilm, .map _ | .map _, .nilm => some false
    | _, _ => none
  | 3 => match x, y with
    | .nilf, .nilf => some true
    | .nilf, .fn .. | .nilf, .yld _ | .fn .., .nilf | .yld _, .nilf => some false
    | _, _ => none
  | _ => none

def unA : UnOp → AVal → Option AVal
  | .not, .bool b => some (.bool !b)
  | .neg, .int k n => some (.int k (wr k (0 - n)))
  | _, _ => none

def fillA (cells : List AVal) : List (Nat × Nat × AVal) → Option (List AVal)
  | [] => some cells
  | (off, size, v) :: rest =>
    if v.isTup = false ∧ v.cells.length = size ∧ off + size ≤ cells.length then fillA (splice cells off v.cells) rest else none

/-- Is a key of these kinds? -/
def kindsOk : List Nat → List AVal → Bool
  | [], [] => true
  | k :: ks, x :: xs => (eqCell k x x).isSome && kindsOk ks xs
  | _, _ => false

def findA (kinds : List Nat) (k : List AVal) : List (List AVal × AVal) → Nat → Option (Option (Nat × AVal))
  | [], _ => some none
  | (k', v) :: es, i => match eqCells kinds k k' with
    | some true => some (some (i, v))
    | some false => findA kinds k es (i + 1)
    | none => none

/-- The elements of a slice as cells. -/
def elemsA (s : St) (sz : Nat) : AVal → Option (Nat × List AVal)
  | .sl0 => some (0, [])
  | .vsl cs len _ => if cs.length = len * sz then some (len, cs) else none
  | .hsl b off len _ => (lookN s (.ptr b off) (len * sz)).map fun cs => (len, cs)
  | _ => none

def appendA (sz bytes : Nat) (a x : AVal) (s : St) : Option (AVal × St) :=
  match elemsA s sz x with
  | none => none
  | some (n, new) =>
    if n = 0 then (match a with | .sl0 | .vsl .. | .hsl .. => some (a, s) | _ => none) else
    match a with
    | .sl0 => if n * bytes ≤ 140737488355328 ∧ n ≤ 140737488355328 then some (.vsl new n (.own s.pn), s.fresh n) else none
    | .vsl cs len perm =>
      if cs.length = len * sz ∧ (len + n) * bytes ≤ 140737488355328 ∧ len + n ≤ 140737488355328 then
        match perm with
        | .full => some (.vsl (cs ++ new) (len + n) (.own s.pn), s.fresh (len + n))
        | .own p => if s.cur p = len ∧ p < s.pn then some (.vsl (cs ++ new) (len + n) (.own p), s.grow p (len + n)) else none
        | .no => none
      else none
    | _ => none

/-- An append to a slice without room, whose result lies in the heap. -/
def appendHsA (sz bytes : Nat) (a x : AVal) (s : St) : Option (AVal × St) :=
  match elemsA s sz x with
  | none => none
  | some (n, new) =>
    if n = 0 then (match a with | .sl0 | .vsl .. | .hsl .. => some (a, s) | _ => none) else
    match a with
    | .sl0 => if n * bytes ≤ 140737488355328 ∧ n ≤ 140737488355328 then some (.hsl s.n 0 n none, s.push (.cells new)) else none
    | .vsl cs len .full =>
      if cs.length = len * sz ∧ (len + n) * bytes ≤ 140737488355328 ∧ len + n ≤ 140737488355328 then some (.hsl s.n 0 (len + n) none, s.push (.cells (cs ++ new))) else none
    | _ => none

/-- The bounds of a slice expression: low, high, max; `cap` none: not known. -/
def boundA (fr : List AVal) (x : Option AOpd) (dflt : Nat) (most : Nat) : Option Nat :=
  match x with
  | none => some dflt
  | some o => match o.eval fr with
    | .int _ i => if 0 ≤ i ∧ i ≤ most then some i.toNat else none
    | _ => none

def sliceA (fr : List AVal) (sz : Nat) (x : AVal) (lo hi mx : Option AOpd) : Option AVal :=
  match x with
  | .sl0 => do
    let m ← boundA fr mx 0 0
    let h ← boundA fr hi 0 m
    let _ ← boundA fr lo 0 h
    pure .sl0
  | .vsl cs len _ => do
    let m ← boundA fr mx len len
    let h ← boundA fr hi len m
    let l ← boundA fr lo 0 h
    if cs.length = len * sz then
      pure (.vsl ((cs.drop (l * sz)).take ((h - l) * sz)) (h - l) (if mx.isSome ∧ m = h then .full else .no))
    else none
  | .hsl b off len (some cap) => do
    let m ← boundA fr mx cap cap
    let h ← boundA fr hi len m
    let l ← boundA fr lo 0 h
    pure (.hsl b (if m = l then off else off + l * sz) (h - l) (some (m - l)))
  | .hsl b off len none => do
    if lo.isNone ∧ mx.isNone then
      let h ← boundA fr hi len len
      pure (.hsl b off h none)
    else none
  | _ => none

def sliceArrA (fr : List AVal) (n sz : Nat) (x : AVal) (lo hi mx : Option AOpd) : Option AVal :=
  match x with
  | .ptr b off => do
    let m ← boundA fr mx n n
    let h ← boundA fr hi n m
    let l ← boundA fr lo 0 h
    pure (.hsl b (if m = l then off else off + l * sz) (h - l) (some (m - l)))
  | _ => none

def idxA (i : AVal) (len : Nat) : Option Nat :=
  match i with
  | .int _ i => if 0 ≤ i ∧ i < len then some i.toNat else none
  | _ => none

def partA (agg : Bool) (cs : List AVal) (off size : Nat) : Option AVal :=
  if agg then (if off + size ≤ cs.length then some (.agg ((cs.drop off).take size)) else none) else cs[off]?

def maxmin2 (isMax : Bool) : AVal → AVal → Option AVal
  | .int k x, .int _ y => some (.int k (if isMax then (if y > x then y else x) else (if y < x then y else x)))
  | _, _ => none

def repl (zero : List AVal) : Nat → List AVal
  | 0 => []
  | n + 1 => zero ++ repl zero n

/-- What a piece of code may ask for: a call, a round of a loop over a function, a loop. -/
inductive Req where
  | call (f : FuncId) (args : List AVal)
  | round (l : Nat) (args : List AVal)
  | loop (c : ACode) (n : Nat) (keep : Keep) (vals : List AVal)

abbrev Res := Option (AExit × List AVal × St)
abbrev Han := Req → St → Res

def one : Res → Option (AVal × St)
  | some (_, [v], s) => some (v, s)
  | _ => none

/-- A plain function value's call: a function or a method expression without a way. -/
def callA (H : Han) (x : AVal) (args : List AVal) (s : St) : Option (AVal × St) :=
  match x with
  | .fn (.func f) first cap => if f < 4096 then one (H (.call f (first ++ args ++ cap)) s) else none
  | .yld l => one (H (.round l args) s)
  | _ => none

def evalOp (H : Han) (o : AOp) (fr : List AVal) (s : St) : Option (AVal × St) :=
  match o with
  | .move x => some (x.eval fr, s)
  | .pick c a b => match c.eval fr with
    | .bool t => some (if t then a.eval fr else b.eval fr, s)
    | _ => none
  | .alloc zero => some (.ptr s.n 0, s.push (.cells zero))
  | .box x => if (x.eval fr).isTup then none else some (.ptr s.n 0, s.push (.cells (x.eval fr).cells))
  | .boxI x => if (x.eval fr).isTup then none else some (.vref (x.eval fr).cells, s)
  | .build zero parts => (fillA zero (parts.map fun (a, b, x) => (a, b, x.eval fr))).map fun cs => (.agg cs, s)
  | .buildSl zero len parts => (fillA zero (parts.map fun (a, b, x) => (a, b, x.eval fr))).map fun cs => (.vsl cs len .full, s)
  | .buildHs zero len parts => (fillA zero (parts.map fun (a, b, x) => (a, b, x.eval fr))).map fun cs => (.hsl s.n 0 len (some len), s.push (.cells cs))
  | .load1 a => (look1 s (a.eval fr)).map fun v => (v, s)
  | .loadn n a => (lookN s (a.eval fr) n).map fun cs => (.agg cs, s)
  | .store n a x => if (x.eval fr).isTup = false ∧ (x.eval fr).cells.length = n then (storeN s (a.eval fr) (x.eval fr).cells).map fun s => (undefA, s) else none
  | .nilCheck x => match x.eval fr with
    | .nilp | .nilf | .nili | .tup _ => none
    | .fn (.method _) _ _ => none
    | v => some (v, s)
  | .bin op x y => (binA op (x.eval fr) (y.eval fr)).map fun v => (v, s)
  | .eqagg neg kinds x y => match x.eval fr, y.eval fr with
    | .agg xs, .agg ys => (eqCells kinds xs ys).map fun b => (.bool (b != neg), s)
    | _, _ => none
  | .eqb neg x y => match x.eval fr, y.eval fr with
    | .bool a, .bool b => some (.bool ((a == b) != neg), s)
    | _, _ => none
  | .eqnil kind neg x y => (eqNilA kind (x.eval fr) (y.eval fr)).map fun b => (.bool (b != neg), s)
  | .un op x => (unA op (x.eval fr)).map fun v => (v, s)
  | .conv k x => match x.eval fr with
    | .int _ n => some (.int k (wr k n), s)
    | _ => none
  | .mkFn f first cap => match f with
    | .func f => some (.fn (.func f) (evals first fr) (evals cap fr), s)
    | _ => none
  | .mkMap kagg => some (.map s.n, s.push (.map kagg []))
  | .mkSlice zero bytes len cap => match len.eval fr, cap.eval fr with
    | .int .i64 l, .int .i64 c =>
      if 0 ≤ l ∧ l ≤ c ∧ bytes * c ≤ 140737488355328 ∧ c ≤ 140737488355328 then some (.hsl s.n 0 l.toNat (some c.toNat), s.push (.cells (repl zero c.toNat))) else none
    | _, _ => none
  | .slice sz x lo hi mx => (sliceA fr sz (x.eval fr) lo hi mx).map fun v => (v, s)
  | .sliceArr n sz x lo hi mx => (sliceArrA fr n sz (x.eval fr) lo hi mx).map fun v => (v, s)
  | .fieldAddr off x => match x.eval fr with
    | .ptr b o => some (.ptr b (o + off), s)
    | .vref cs => some (.vref (cs.drop off), s)
    | _ => none
  | .field agg off size x => match x.eval fr with
    | .agg cs => (partA agg cs off size).map fun v => (v, s)
    | _ => none
  | .indexArr n sz x i => match x.eval fr, idxA (i.eval fr) n with
    | .ptr b o, some k => some (.ptr b (o + k * sz), s)
    | .vref cs, some k => some (.vref (cs.drop (k * sz)), s)
    | _, _ => none
  | .indexSl sz x i => match x.eval fr with
    | .vsl cs len _ => (idxA (i.eval fr) len).map fun k => (.vref (cs.drop (k * sz)), s)
    | .hsl b o len _ => (idxA (i.eval fr) len).map fun k => (.ptr b (o + k * sz), s)
    | _ => none
  | .index n agg sz x i => match x.eval fr, idxA (i.eval fr) n with
    | .agg cs, some k => (partA agg cs (k * sz) sz).map fun v => (v, s)
    | _, _ => none
  | .lookup kagg kinds zero ok m k => if kindsOk kinds (k.eval fr).cells = false ∨ (k.eval fr).isAgg ≠ kagg then none else
    match m.eval fr with
    | .map b => match s.get b with
      | some (.map kagg' es) => if kagg ≠ kagg' then none else match findA kinds (k.eval fr).cells es 0 with
        | some r =>
          let (v, h) := match r with | some (_, v) => (v, true) | none => (zero, false)
          some (if ok then .tup [v, .bool h] else v, s)
        | none => none
      | _ => none
    | _ => none
  | .mapUpdate kagg kinds m k v => if kindsOk kinds (k.eval fr).cells = false ∨ (k.eval fr).isAgg ≠ kagg then none else
    match m.eval fr with
    | .map b => match s.get b with
      | some (.map kagg' es) => if kagg ≠ kagg' then none else match findA kinds (k.eval fr).cells es 0 with
        | some (some (i, _)) => some (undefA, s.set b (.map kagg (es.modify i fun _ => ((k.eval fr).cells, v.eval fr))))
        | some none => some (undefA, s.set b (.map kagg (es ++ [((k.eval fr).cells, v.eval fr)])))
        | none => none
      | _ => none
    | _ => none
  | .extract x i => match x.eval fr with
    | .tup vs => match vs[i]? with
      | some v => if v.isTup then none else some (v, s)
      | none => none
    | _ => none
  | .call f args => one (H (.call f (evals args fr)) s)
  | .callv x args => callA H (x.eval fr) (evals args fr) s
  | .len x => match x.eval fr with
    | .sl0 => some (.int .i64 0, s)
    | .vsl _ len _ => some (.int .i64 len, s)
    | .hsl _ _ len _ => some (.int .i64 len, s)
    | _ => none
  | .lenArr n _ => some (.int .i64 n, s)
  | .append sz bytes a x => appendA sz bytes (a.eval fr) (x.eval fr) s
  | .appendHs sz bytes a x => appendHsA sz bytes (a.eval fr) (x.eval fr) s
  | .maxmin isMax args => match evals args fr with
    | [] => none
    | v :: vs => (vs.foldlM (maxmin2 isMax) v).map fun v => (v, s)
  | .stuck => none

def wantedA (g : Option (Nat × Bool)) (fr : List AVal) : Bool :=
  match g with
  | none => true
  | some (t, want) => match fr.getD t undefA with
    | .bool b => b == want
    | _ => false

/-- Nothing is known of what a guard names. -/
def badG (g : Option (Nat × Bool)) (fr : List AVal) : Bool :=
  match g with
  | none => false
  | some (t, _) => (fr.getD t undefA).isAny

def putA (fr : List AVal) (dst : Option Nat) (v : AVal) : List AVal :=
  match dst with
  | some d => fr.set d v
  | none => fr

def evalOps (H : Han) : List AInstr → List AVal → St → Option (List AVal × St)
  | [], fr, s => some (fr, s)
  | i :: l, fr, s =>
    if badG i.guard fr then none else
    if wantedA i.guard fr then
      match evalOp H i.op fr s with
      | some (v, s) => evalOps H l (putA fr i.dst v) s
      | none => none
    else evalOps H l (putA fr i.dst undefA) s

/-- Does an operation change the abstract heap? -/
def heavyA : AOp → Bool
  | .alloc _ | .box _ | .buildHs .. | .store .. | .mkMap _ | .mkSlice .. | .lookup .. | .mapUpdate .. | .call .. | .callv .. | .append .. | .appendHs .. => true
  | _ => false

def fnEq : Fn → Fn → Bool
  | .func a, .func b => a == b
  | _, _ => false

mutual
def AVal.beq : AVal → AVal → Bool
  | .bool a, .bool b => a == b
  | .int k a, .int k' b => k == k' && a == b
  | .str a, .str b => a == b
  | .nilp, .nilp => true
  | .ptr b o, .ptr b' o' => b == b' && o == o'
  | .vref a, .vref b => beqs a b
  | .sl0, .sl0 => true
  | .vsl a n p, .vsl b n' p' => beqs a b && n == n' && p == p'
  | .hsl b o l c, .hsl b' o' l' c' => b == b' && o == o' && l == l' && c == c'
  | .map b, .map b' => b == b'
  | .nilm, .nilm => true
  | .yld b, .yld b' => b == b'
  | .nilf, .nilf => true
  | .nili, .nili => true
  | .agg a, .agg b => beqs a b
  | .tup a, .tup b => beqs a b
  | .fn f a c, .fn f' a' c' => fnEq f f' && beqs a a' && beqs c c'
  | _, _ => false
def beqs : List AVal → List AVal → Bool
  | [], [] => true
  | a :: as, b :: bs => a.beq b && beqs as bs
  | _, _ => false
end

/-- A load in a region that draws: its address, how many cells (none: one alone), what it gave, the states (by number) at which it must give the same. -/
structure Chk where
  a : AVal
  n : Option Nat
  v : AVal
  lo : Nat
  hi : Nat

def readA (s : St) (a : AVal) : Option Nat → Option AVal
  | none => look1 s a
  | some n => (lookN s a n).map .agg

def Chk.ok (c : Chk) (states : List St) : Bool :=
  match c.a with
  | .vref _ => true
  | a => ((states.drop c.lo).take (c.hi + 1 - c.lo)).all fun s => match readA s a c.n with
    | some v => v.beq c.v
    | none => false

/-- A region that draws its order, in the order of the text; `states`: those so far at the heads of the heavy operations, the newest last. -/
def evalD (H : Han) : List (AInstr × Nat × Nat) → List AVal → St → List St → List Chk → Option (List AVal × St)
  | [], fr, s, states, chks => if chks.all fun c => c.ok states then some (fr, s) else none
  | (i, lo, hi) :: l, fr, s, states, chks =>
    if badG i.guard fr then none else
    if wantedA i.guard fr then
      match evalOp H i.op fr s with
      | some (v, s') =>
        let chks := match i.op with
          | .load1 a => if lo < hi then ⟨a.eval fr, none, v, lo, hi⟩ :: chks else chks
          | .loadn n a => if lo < hi then ⟨a.eval fr, some n, v, lo, hi⟩ :: chks else chks
          | _ => chks
        evalD H l (putA fr i.dst v) s' (if heavyA i.op then states ++ [s'] else states) chks
      | none => none
    else evalD H l (putA fr i.dst undefA) s (if heavyA i.op then states ++ [s] else states) chks

def setAll (fr : List AVal) : List Nat → List AVal → List AVal
  | t :: ts, v :: vs => setAll (fr.set t v) ts vs
  | _, _ => fr

/-- Of a frame nothing is kept but some values. -/
def keepA (keep : List Nat) (fr : List AVal) : List AVal := keep.map fun t => fr.getD t undefA
def fillK (n : Nat) (keep : List Nat) (vals : List AVal) : List AVal := setAll (List.replicate n anyA) keep vals

def evalCode (H : Han) : ACode → List AVal → St → Res
  | .skip, fr, s => some (.normal, fr, s)
  | .ops l, fr, s => match evalOps H l fr s with
    | some (fr, s) => some (.normal, fr, s)
    | none => none
  | .dops l, fr, s => match evalD H l fr s [s] [] with
    | some (fr, s) => some (.normal, fr, s)
    | none => none
  | .seq a b, fr, s => match evalCode H a fr s with
    | some (.normal, fr, s) => evalCode H b fr s
    | r => r
  | .cond c a b, fr, s => match c.eval fr with
    | .bool true => evalCode H a fr s
    | .bool false => evalCode H b fr s
    | _ => none
  | .block id c, fr, s => match evalCode H c fr s with
    | some (.exit i, fr, s) => if i = id then some (.normal, fr, s) else some (.exit i, fr, s)
    | r => r
  | .loop keep c, fr, s => match H (.loop c fr.length keep (keepA keep.head fr)) s with
    | some (e, vals, s) => some (e, fillK fr.length (keep.at_ e) vals, s)
    | none => none
  | .rangeFunc f params assign body, fr, s =>
    match f.eval fr with
    | .fn (.func g) first cap => if g < 4096 then match one (H (.call g (first ++ [.yld s.n] ++ cap)) (s.push (.loop ⟨.ready, none, fr, params, assign, body⟩))) with
      | none => none
      | some (_, s2) => match s2.get s.n with
        | some (.loop l) => if l.state = .busy then none else
          let s3 := s2.set s.n (.loop { l with state := .exhausted })
          match l.pending with
          | none => some (.normal, fr, s3)
          | some e => some (e, fr, s3)
        | _ => none
      else none
    | _ => none
  | .exit id, fr, s => some (.exit id, fr, s)
  | .ret, fr, s => some (.ret, fr, s)
  | .stuck, _, _ => none

inductive ARes where
  | tmp (t : Nat)
  | cell (t : Nat) (n : Option Nat)
  deriving Inhabited

/-- `gc`: what the function has allocated is forgotten when it returns; its results hold no reference (slices in the heap, of elements of so many cells, are taken as they then are). -/
structure AFun where
  ntmps : Nat
  results : List ARes
  body : ACode
  gc : Option Nat
  deriving Inhabited

def ARes.get (fr : List AVal) (s : St) : ARes → Option AVal
  | .tmp t => some (fr.getD t undefA)
  | .cell t n => readA s (fr.getD t undefA) n

def resultsA (l : List ARes) (fr : List AVal) (s : St) : Option AVal :=
  match l.mapM (ARes.get fr s) with
  | some [v] => some v
  | some vs => some (.tup vs)
  | none => none

def pendOf : AExit → Option AExit
  | .normal => none
  | e => some e

mutual
/-- A value without references into the heap, and without rights to rooms. -/
def AVal.weak : AVal → Option AVal
  | .ptr .. | .hsl .. | .map _ | .yld _ => none
  | .vref cs => (weaks cs).map .vref
  | .sl0 => some (.vsl [] 0 .no)
  | .vsl cs len _ => (weaks cs).map fun cs => .vsl cs len .no
  | .fn f a c => match weaks a, weaks c with
    | some a, some c => some (.fn f a c)
    | _, _ => none
  | .iface t v => v.weak.map (.iface t)
  | .agg cs => (weaks cs).map .agg
  | .tup vs => (weaks vs).map .tup
  | v => some v
def weaks : List AVal → Option (List AVal)
  | [] => some []
  | v :: vs => match v.weak, weaks vs with
    | some v, some vs => some (v :: vs)
    | _, _ => none
end

mutual
/-- A value in the form in which functions take it: slices with no rights, and perhaps nil where empty. -/
def AVal.norm : AVal → AVal
  | .vref cs => .vref (norms cs)
  | .sl0 => .vsl [] 0 .no
  | .vsl cs len _ => .vsl (norms cs) len .no
  | .fn f a c => .fn f (norms a) (norms c)
  | .iface t v => .iface t v.norm
  | .agg cs => .agg (norms cs)
  | .tup vs => .tup (norms vs)
  | v => v
def norms : List AVal → List AVal
  | [] => []
  | v :: vs => v.norm :: norms vs
end

/-- The arguments of a function as it takes them. -/
def takes (gc : Option Nat) (args : List AVal) : List AVal := if gc.isSome then norms args else args

def frz1 (lo : Nat) (s : St) (sz : Nat) : AVal → Option AVal
  | .hsl b off len _ => if b < lo then none else match s.get b with
    | some (.cells cs) => if off + len * sz ≤ cs.length then (weaks ((cs.drop off).take (len * sz))).map fun cs => .vsl cs len .no else none
    | _ => none
  | v => v.weak

def frzs (lo : Nat) (s : St) (sz : Nat) : List AVal → Option (List AVal)
  | [] => some []
  | v :: vs => match frz1 lo s sz v, frzs lo s sz vs with
    | some v, some vs => some (v :: vs)
    | _, _ => none

/-- What a function returns, when what it allocated is forgotten. -/
def frz (lo : Nat) (s : St) (sz : Nat) : AVal → Option AVal
  | .tup vs => (frzs lo s sz vs).map .tup
  | v => frz1 lo s sz v

/-- The old part of a state is as it was. -/
def Old (s s' : St) : Prop := s.n ≤ s'.n ∧ s'.objs.drop (s'.n - s.n) = s.objs ∧ ∀ p, p < s.pn → s'.cur p = s.cur p

/-- What a call takes that runs on memory that stays as it is: blocks become rows, slices in the heap become lists. -/
def mapO (f : AVal → Option AVal) : List AVal → Option (List AVal)
  | [] => some []
  | v :: vs => match f v, mapO f vs with
    | some v, some vs => some (v :: vs)
    | _, _ => none
def fzT (len : Nat) (cap : Option Nat) (cs : List AVal) : List AVal :=
  match cap with
  | some (c + 1) => cs.take (len * (cs.length / (c + 1)))
  | _ => cs
def fz : Nat → St → AVal → Option AVal
  | 0, _, _ => none
  | n + 1, s, .ptr b off => match s.get b with
    | some (.cells cs) => (mapO (fz n s) (cs.drop off)).map .vref
    | _ => none
  | n + 1, s, .hsl b off len cap => match s.get b with
    | some (.cells cs) => (mapO (fz n s) (fzT len cap (cs.drop off))).map fun cs => .vsl cs len .no
    | _ => none
  | n + 1, s, .vref cs => (mapO (fz n s) cs).map .vref
  | _ + 1, _, .sl0 => some (.vsl [] 0 .no)
  | n + 1, s, .vsl cs len _ => (mapO (fz n s) cs).map fun cs => .vsl cs len .no
  | n + 1, s, .agg cs => (mapO (fz n s) cs).map .agg
  | _ + 1, _, .bool b => some (.bool b)
  | _ + 1, _, .int k n => some (.int k n)
  | _ + 1, _, .str x => some (.str x)
  | _ + 1, _, .nilp => some .nilp
  | _ + 1, _, .nilm => some .nilm
  | _ + 1, _, .nilf => some .nilf
  | _ + 1, _, .nili => some .nili
  | _ + 1, _, _ => none
mutual
/-- A result that holds no memory but its own. -/
def AVal.fresh : AVal → Bool
  | .bool _ | .int .. | .str _ | .nilp | .sl0 | .nilm | .nilf | .nili => true
  | .vsl cs _ (.own _) => freshs cs
  | .vsl [] 0 .no | .vsl [] 0 .full => true
  | .agg cs => freshs cs
  | .tup vs => freshs vs
  | _ => false
def freshs : List AVal → Bool
  | [] => true
  | v :: vs => v.fresh && freshs vs
end
/-- Functions that run on memory that stays as it is. -/
def isIce : Option Nat → Bool
  | some n => Nat.beq n 1000000
  | none => false

/-- `chk` decides `Old`. -/
def evalReq (chk : St → St → Bool) (tbl : FuncId → Option AFun) : Nat → Han
  | 0, _, _ => none
  | n + 1, .loop c m keep vals, s => match evalCode (evalReq chk tbl n) c (fillK m keep.head vals) s with
    | some (.normal, fr, s) => evalReq chk tbl n (.loop c m keep (keepA keep.head fr)) s
    | some (e, fr, s) => some (e, keepA (keep.at_ e) fr, s)
    | none => none
  | n + 1, .call f args, s => match tbl f with
    | none => none
    | some F => if isIce F.gc then
      (match mapO (fz 8 s) args with
      | none => none
      | some as => match evalCode (evalReq chk tbl n) F.body (as ++ List.replicate (F.ntmps - args.length) undefA) St.empty with
        | some (.exit _, _, _) => none
        | some (_, fr, s') => match resultsA F.results fr s' with
          | some v => if v.fresh then v.weak.map fun v => (.ret, [v], s) else none
          | none => none
        | none => none)
      else match evalCode (evalReq chk tbl n) F.body (takes F.gc args ++ List.replicate (F.ntmps - args.length) undefA) s with
      | some (.exit _, _, _) => none
      | some (_, fr, s') => match resultsA F.results fr s' with
        | some v => match F.gc with
          | none => some (.ret, [v], s')
          | some sz => if chk s s' then (frz s.n s' sz v).map fun v => (.ret, [v], s) else none
        | none => none
      | none => none
  | n + 1, .round l args, s => match s.get l with
    | some (.loop L) => if args.length ≠ L.params.length then none else
      match evalCode (evalReq chk tbl n) L.assign (setAll L.fr L.params args) s with
      | some (.normal, fr, s1) => match s1.get l with
        | some (.loop L1) => if L1.state ≠ .ready then none else
          match evalCode (evalReq chk tbl n) L.body fr (s1.set l (.loop { L1 with state := .busy })) with
          | some (e, _, s3) => match s3.get l with
            | some (.loop L3) => some (.ret, [.bool (pendOf e).isNone], s3.set l (.loop { L3 with state := if (pendOf e).isNone then .ready else .done, pending := pendOf e }))
            | _ => none
          | none => none
        | _ => none
      | _ => none
    | _ => none

end Go.Proofs.Ytlhfeiacigmliaa

/- From the model's code to the evaluator's small code: a plain function. -/
namespace Go.Proofs.Ytlhfeiacigmliaa
open Go

def ofScalar : Value → Option AVal
  | .bool b => some (.bool b)
  | .int k n => some (.int k n)
  | .string s => some (.str s)
  | .pointer none => some .nilp
  | .slice none 0 0 => some .sl0
  | .map none => some .nilm
  | .nilFunc => some .nilf
  | .nilIface => some .nili
  | _ => none

def ofValue : Value → Option AVal
  | .agg cs => (cs.toList.mapM ofScalar).map .agg
  | v => ofScalar v

def cOpd : Operand → Option AOpd
  | .tmp t => some (.tmp t)
  | .const v => (ofValue v).map .const
  | .func f => some (.const (.fn (.func f) [] []))
  | .global _ => none

def cOpds (l : Array Operand) : Option (List AOpd) := l.toList.mapM cOpd

def aggT (P : Program) (t : TypeId) : Option Bool :=
  match P.underlying t with
  | some (.struct _) | some (.array _ _) => some true
  | some _ => some false
  | none => none

def sizeT (P : Program) (t : TypeId) : Option Nat := (P.info? t).map (·.size)
def zeroT (P : Program) (t : TypeId) : Option AVal := ((P.info? t).bind (·.zero)).bind ofValue

/-- A plain kind: '==' on it holds its one cell against the other. -/
def plainT (P : Program) (t : TypeId) : Bool :=
  match P.underlying t with
  | some (.int _) | some .bool | some .string => true
  | _ => false

def plainK (P : Program) (t : TypeId) : Option Nat :=
  match P.underlying t with
  | some (.int _) => some 0
  | some .bool => some 1
  | some .string => some 2
  | _ => none

/-- The kinds of the cells of a type that is compared cell by cell. -/
def flatT (P : Program) (t : TypeId) : Option (List Nat) :=
  match P.underlying t with
  | some (.struct fs) =>
    if !P.stoodInHeld t && !P.eqGuardType P.depth t && (fs.toList.all fun f => f.name != "_") && (fs.toList.map (·.offset) == List.range fs.size) then fs.toList.mapM fun f => plainK P f.type else none
  | some (.array n e) => if !P.eqGuardType P.depth t && sizeT P e == some 1 then (plainK P e).map fun k => List.replicate n k else none
  | _ => none

def nilT (P : Program) (t : TypeId) : Option Nat :=
  match P.underlying t with
  | some (.pointer _) => some 0
  | some (.slice _) => some 1
  | some (.map _ _) => some 2
  | some (.func _ _ _) => some 3
  | _ => none
/-- Integers and strings. -/
def numT (P : Program) (t : TypeId) : Bool :=
  match P.underlying t with
  | some (.int _) | some .string => true
  | _ => false

def cParts (place : Nat → Option (Nat × Nat)) (parts : Array (Nat × Operand)) : Option (List (Nat × Nat × AOpd)) :=
  parts.toList.mapM fun (i, x) => do
    let (off, size) ← place i
    pure (off, size, ← cOpd x)

def okBody (P : Program) (f : FuncId) : Bool :=
  match P.funcs[f]? with
  | some fn => fn.body.isSome && fn.name != "runtime.NumGoroutine"
  | none => false

def cOpt (x : Option Operand) : Option (Option AOpd) :=
  match x with
  | none => some none
  | some o => (cOpd o).map some

/-- `hint` of an operation: 1: what it makes lies in the heap; of a call: which variant of the function is meant. -/
def cOp (P : Program) (hint : Nat) (o : Op) : Option AOp :=
  match o with
  | .move x | .assign x => do pure (.move (← cOpd x))
  | .pick c a b => do pure (.pick (← cOpd c) (← cOpd a) (← cOpd b))
  | .alloc e => do pure (.alloc (← zeroT P e).cells)
  | .box _ x => do
    let x ← cOpd x
    pure (if hint = 1 then .boxI x else .box x)
  | .build t parts => do
    let z ← zeroT P t
    match P.underlying t with
    | some (.struct fs) =>
      let places ← fs.toList.mapM fun f => do pure (f.offset, ← sizeT P f.type)
      pure (.build z.cells (← cParts (places[·]?) parts))
    | some (.array _ e) => do
      let s ← sizeT P e
      pure (.build z.cells (← cParts (fun i => some (i * s, s)) parts))
    | _ => none
  | .buildSlice t len parts => do
    match P.underlying t with
    | some (.slice e) =>
      let s ← sizeT P e
      let z ← zeroT P e
      if len * s > 2 ^ 24 ∨ z.cells.length ≠ s then none else
      let ps ← cParts (fun i => some (i * s, s)) parts
      pure (if hint = 1 then .buildHs (repl z.cells len) len ps else .buildSl (repl z.cells len) len ps)
    | _ => none
  | .load t a => do if ← aggT P t then pure (.loadn (← sizeT P t) (← cOpd a)) else pure (.load1 (← cOpd a))
  | .store t a x => do pure (.store (← sizeT P t) (← cOpd a) (← cOpd x))
  | .nilCheck x => do pure (.nilCheck (← cOpd x))
  | .binOp op t x y _ => do
    if numT P t then pure (.bin op (← cOpd x) (← cOpd y))
    else if op = .eql ∨ op = .neq then
      match flatT P t with
      | some n => pure (.eqagg (op = .neq) n (← cOpd x) (← cOpd y))
      | none => if plainT P t then pure (.eqb (op = .neq) (← cOpd x) (← cOpd y)) else do
        let k ← nilT P t
        pure (.eqnil k (op = .neq) (← cOpd x) (← cOpd y))
    else none
  | .unOp op _ x => do pure (.un op (← cOpd x))
  | .convert s d x => do
    match P.underlying s, P.underlying d with
    | some (.int _), some (.int k) => pure (.conv k (← cOpd x))
    | _, _ => none
  | .makeFunc f first cap => do pure (.mkFn f (← cOpds first) (← cOpds cap))
  | .makeMap t none => do
    match P.underlying t with
    | some (.map k _) => pure (.mkMap (flatT P k).isSome)
    | _ => none
  | .makeSlice t l c => do
    match P.underlying t with
    | some (.slice e) =>
      let i ← P.info? e
      let z ← zeroT P e
      if z.cells.length ≠ i.size then none else pure (.mkSlice z.cells i.bytes (← cOpd l) (← cOpd c))
    | _ => none
  | .slice t x lo hi mx => do
    if mx.isSome && hi.isNone then none else
    match P.underlying t with
    | some (.slice e) => pure (.slice (← sizeT P e) (← cOpd x) (← cOpt lo) (← cOpt hi) (← cOpt mx))
    | some (.array n e) => pure (.sliceArr n (← sizeT P e) (← cOpd x) (← cOpt lo) (← cOpt hi) (← cOpt mx))
    | _ => none
  | .fieldAddr t x f => do
    match P.underlying t with
    | some (.struct fs) =>
      let f ← fs[f]?
      if (← sizeT P f.type) = 0 then none else pure (.fieldAddr f.offset (← cOpd x))
    | _ => none
  | .field t x f => do
    match P.underlying t with
    | some (.struct fs) =>
      let f ← fs[f]?
      pure (.field (← aggT P f.type) f.offset (← sizeT P f.type) (← cOpd x))
    | _ => none
  | .indexAddr t x i => do
    match P.underlying t with
    | some (.array n e) => pure (.indexArr n (← sizeT P e) (← cOpd x) (← cOpd i))
    | some (.slice e) => pure (.indexSl (← sizeT P e) (← cOpd x) (← cOpd i))
    | _ => none
  | .index t x i => do
    match P.underlying t with
    | some (.array n e) => pure (.index n (← aggT P e) (← sizeT P e) (← cOpd x) (← cOpd i))
    | _ => none
  | .lookup t m k ok => do
    match P.underlying t with
    | some (.map kt e) =>
      let z ← zeroT P e
      match flatT P kt with
      | some n => pure (.lookup true n z ok (← cOpd m) (← cOpd k))
      | none => do pure (.lookup false [← plainK P kt] z ok (← cOpd m) (← cOpd k))
    | _ => none
  | .mapUpdate t m k v => do
    match P.underlying t with
    | some (.map kt _) =>
      match flatT P kt with
      | some n => pure (.mapUpdate true n (← cOpd m) (← cOpd k) (← cOpd v))
      | none => do pure (.mapUpdate false [← plainK P kt] (← cOpd m) (← cOpd k) (← cOpd v))
    | _ => none
  | .extract x i => do pure (.extract (← cOpd x) i)
  | .call c => do
    match c.callee with
    | .value (.func f) => if okBody P f && decide (f < 4096) then pure (.call (f + 4096 * hint) (← cOpds c.args)) else none
    | .value x => pure (.callv (← cOpd x) (← cOpds c.args))
    | .builtin .len => do
      match c.argTypes.toList, c.args.toList with
      | [t], [x] => match P.underlying t with
        | some (.slice _) => pure (.len (← cOpd x))
        | some (.array n _) => pure (.lenArr n (← cOpd x))
        | _ => none
      | _, _ => none
    | .builtin .append => do
      match c.argTypes.toList, c.args.toList with
      | [t, t'], [a, x] => if t ≠ t' then none else match P.underlying t with
        | some (.slice e) =>
          let i ← P.info? e
          let z ← zeroT P e
          if z.cells.length ≠ i.size then none else (do let a ← cOpd a; let x ← cOpd x; pure (if hint = 1 then .appendHs i.size i.bytes a x else .append i.size i.bytes a x))
        | _ => none
      | _, _ => none
    | .builtin .max => do pure (.maxmin true (← cOpds c.args))
    | .builtin .min => do pure (.maxmin false (← cOpds c.args))
    | _ => none
  | _ => none

def cGuard (ops : Array Oper) : Option (Nat × Bool) → Option (Option (Nat × Bool))
  | none => some none
  | some (j, want) => match (ops[j]?).bind (·.dst) with
    | some t => some (some (t, want))
    | none => none

/-- Hints out of a list. -/
def hintL : List (Nat × Nat) → Nat → Nat
  | [], _ => 0
  | (d, h) :: l, x => if x = d then h else hintL l x

/-- What loops keep, out of a list. -/
def keepL : List (Nat × Keep) → Nat → Keep
  | [], _ => ⟨[], [], []⟩
  | (d, h) :: l, x => if x = d then h else keepL l x

def hintOf (hint : Nat → Nat) : Option Tmp → Nat
  | some d => hint d
  | none => 0

def cOper (P : Program) (hint : Nat → Nat) (ops : Array Oper) (o : Oper) : AInstr :=
  match cGuard ops o.guard with
  | some g => { dst := o.dst, guard := g, op := (cOp P (hintOf hint o.dst) o.op).getD .stuck }
  | none => { dst := o.dst, guard := none, op := .stuck }

/-- The names of temporaries that an operation reads or writes. -/
def namesOf (ops : Array Oper) (o : Oper) : List Tmp :=
  o.dst.toList ++ (o.op.operands.toList.filterMap fun | .tmp t => some t | _ => none) ++
  (match o.guard with | some (g, _) => ((ops[g]?).bind (·.dst)).toList | none => [])

/-- For each operation the operations (by bits) that are surely done before it. -/
def closure : List Oper → List Nat → List Nat
  | [], acc => acc
  | o :: l, acc => closure l (acc ++ [o.after.foldl (fun s e => if Region.binds .any e then s ||| 2 ^ e.on ||| acc.getD e.on 0 else s) 0])

/-- In a region that draws: all heavy operations are in order, and so are all that name a temporary that one of them writes. -/
def drawOk (ops : List Oper) (names : List (List Tmp)) (heavy : List Bool) (cl : List Nat) : Bool :=
  (ops.zipIdx.all fun x => x.1.after.all fun e => !Region.binds .any e || decide (e.on < x.2)) &&
  (List.range ops.length).all fun j => (List.range j).all fun i =>
    (cl.getD j 0).testBit i ||
    (!(heavy.getD i false && heavy.getD j false) &&
      (match (ops.getD i default).dst with | some d => !(names.getD j []).contains d | none => true) &&
      (match (ops.getD j default).dst with | some d => !(names.getD i []).contains d | none => true))

/-- An allocation that is always done; a reading that is. -/
def allocI (x : AInstr) (o : Oper) : Bool := (match x.guard, x.op with | none, .alloc _ => true | _, _ => false) && (match o.op with | .alloc _ => true | _ => false)
def loadI (x : AInstr) (o : Oper) : Bool := (match x.guard with | none => true | _ => false) && (match o.op with | .load _ _ => true | _ => false)
/-- In a region that draws: as `drawOk`, but allocations have no order among each other, and stand ahead of all other heavy operations; all light ones are readings. -/
def drawOkA (ops : List Oper) (names : List (List Tmp)) (heavy al ld : List Bool) (cl : List Nat) : Bool :=
  (ops.zipIdx.all fun x => x.1.after.all fun e => !Region.binds .any e || decide (e.on < x.2)) &&
  ((List.range ops.length).all fun j => (List.range j).all fun i =>
    (cl.getD j 0).testBit i ||
    ((!(heavy.getD i false && heavy.getD j false) || (al.getD i false && al.getD j false)) &&
      (match (ops.getD i default).dst with | some d => !(names.getD j []).contains d | none => true) &&
      (match (ops.getD j default).dst with | some d => !(names.getD i []).contains d | none => true))) &&
  ((List.range ops.length).all fun j => (!heavy.getD j false || al.getD j false) || (List.range ops.length).all fun i => !al.getD i false || (cl.getD j 0).testBit i) &&
  (List.range ops.length).all fun j => heavy.getD j false || ld.getD j false

def countTrue (l : List Bool) : Nat := (l.filter id).length

/-- `kp`: what a loop keeps of the frame, by its place in the code. `rnd`: the code is a round's of a loop over a function (no such loop may stand in it). -/
def cCode (P : Program) (hint : Nat → Nat) (kp : Nat → Keep) (rnd : Bool) : Nat → Code → ACode
  | _, .skip => .skip
  | _, .label _ => .skip
  | _, .region _ ops false => .ops (ops.toList.map (cOper P hint ops))
  | _, .region _ ops true =>
    let is := ops.toList.map (cOper P hint ops)
    let heavy := is.map (heavyA ·.op)
    let cl := closure ops.toList []
    if P.follows .mixedOrders && (drawOk ops.toList (ops.toList.map (namesOf ops)) heavy cl || drawOkA ops.toList (ops.toList.map (namesOf ops)) heavy (ops.toList.map fun o => allocI (cOper P hint ops o) o) (ops.toList.map fun o => loadI (cOper P hint ops o) o) cl) then
      .dops (is.zipIdx.map fun (x, i) =>
        (x, countTrue ((List.range ops.size).map fun k => heavy.getD k false && (cl.getD i 0).testBit k),
         countTrue ((List.range ops.size).map fun k => heavy.getD k false && (!(cl.getD k 0).testBit i && k != i))))
    else .stuck
  | p, .seq a b => .seq (cCode P hint kp rnd (2 * p) a) (cCode P hint kp rnd (2 * p + 1) b)
  | p, .cond c a b => match cOpd c with
    | some c => .cond c (cCode P hint kp rnd (2 * p) a) (cCode P hint kp rnd (2 * p + 1) b)
    | none => .stuck
  | p, .block id c => .block id (cCode P hint kp rnd (2 * p) c)
  | p, .loop c => .loop (kp p) (cCode P hint kp rnd (2 * p) c)
  | p, .rangeFunc f params assign body => if rnd then .stuck else match cOpd f with
    | some f => .rangeFunc f params.toList (cCode P hint kp true (2 * p) assign) (cCode P hint kp true (2 * p + 1) body)
    | none => .stuck
  | _, .exit id => .exit id
  | _, .ret => .ret
  | p, .scope c => cCode P hint kp rnd (2 * p) c
  | _, _ => .stuck

def cRes (P : Program) : ResultVar → Option ARes
  | .tmp t => some (.tmp t)
  | .cell a t => do if ← aggT P t then pure (.cell a (some (← sizeT P t))) else pure (.cell a none)

def cFun (P : Program) (hint : Nat → Nat) (kp : Nat → Keep) (gc : Option Nat) (f : Func) : Option AFun :=
  match f.body, f.results.toList.mapM (cRes P) with
  | some c, some rs => some { ntmps := f.ntmps, results := rs, body := cCode P hint kp false 1 c, gc }
  | _, _ => none

end Go.Proofs.Ytlhfeiacigmliaa

/- What it means that an abstract state stands for a world, and how the relation goes on. -/
namespace Go.Proofs.Ytlhfeiacigmliaa
open Go

structure PRec where
  R : Nat
  off : Nat
  len : Nat
  cap : Nat
  sz : Nat

/-- The relation's data: where abstract blocks lie, which cells never change, the rooms behind slices. -/
structure Rho where
  m : Nat → Option Nat
  I : Nat → Nat → Option Value
  pm : Nat × Nat → Option PRec

structure Rho.le (ρ ρ' : Rho) : Prop where
  m : ∀ b R, ρ.m b = some R → ρ'.m b = some R
  I : ∀ R o v, ρ.I R o = some v → ρ'.I R o = some v
  pm : ∀ p r, ρ.pm p = some r → ρ'.pm p = some r

theorem Rho.le_refl (ρ : Rho) : ρ.le ρ := ⟨fun _ _ h => h, fun _ _ _ h => h, fun _ _ h => h⟩
theorem Rho.le.trans {a b c : Rho} (h : a.le b) (h' : b.le c) : a.le c :=
  ⟨fun x y e => h'.m x y (h.m x y e), fun x y z e => h'.I x y z (h.I x y z e), fun x y e => h'.pm x y (h.pm x y e)⟩

def PermOk (ρ : Rho) (perm : Perm) (R off len cap clen : Nat) : Prop :=
  match perm with
  | .no => True
  | .full => cap = len
  | .own p => 0 < len ∧ off = 0 ∧ ∃ sz, clen = len * sz ∧ ρ.pm (p, len) = some ⟨R, 0, len, cap, sz⟩

mutual
def VRel (ρ : Rho) : AVal → Value → Prop
  | .bool b, v => v = .bool b
  | .int k n, v => v = .int k n
  | .str s, v => v = .string s
  | .nilp, v => v = .pointer none
  | .ptr b off, v => ∃ R, ρ.m b = some R ∧ v = .pointer (some ⟨R, off, none⟩)
  | .vref cs, v => ∃ R off, v = .pointer (some ⟨R, off, none⟩) ∧ IRel ρ cs R off
  | .sl0, v => v = .slice none 0 0
  | .vsl cs len perm, v => (cs = [] ∧ len = 0 ∧ (∀ p, perm ≠ .own p) ∧ v = .slice none 0 0) ∨ ∃ R off cap, v = .slice (some ⟨R, off, none⟩) len cap ∧ len ≤ cap ∧ IRel ρ cs R off ∧ PermOk ρ perm R off len cap cs.length
  | .hsl b off len cap, v => ∃ R c, ρ.m b = some R ∧ v = .slice (some ⟨R, off, none⟩) len c ∧ len ≤ c ∧ (∀ c', cap = some c' → c = c')
  | .map b, v => ∃ R, ρ.m b = some R ∧ v = .map (some R)
  | .nilm, v => v = .map none
  | .fn f first cap, v => ∃ fs cs, v = .func f fs cs ∧ VRels ρ first fs.toList ∧ VRels ρ cap cs.toList
  | .yld b, v => ∃ R, ρ.m b = some R ∧ v = .func (.yield R) #[] #[]
  | .nilf, v => v = .nilFunc
  | .iface t x, v => ∃ y, v = .iface t y ∧ VRel ρ x y
  | .nili, v => v = .nilIface
  | .agg cs, v => ∃ vs, v = .agg vs ∧ CRel ρ cs vs.toList
  | .tup as, v => as = [.tup []] ∨ ∃ vs, v = .tuple vs ∧ VRels ρ as vs.toList
def VRels (ρ : Rho) : List AVal → List Value → Prop
  | [], vs => vs = []
  | a :: as, vs => ∃ v vs', vs = v :: vs' ∧ VRel ρ a v ∧ VRels ρ as vs'
def CRel (ρ : Rho) : List AVal → List Value → Prop
  | [], vs => vs = []
  | a :: as, vs => ∃ v vs', vs = v :: vs' ∧ v.oneCell' = true ∧ VRel ρ a v ∧ CRel ρ as vs'
def IRel (ρ : Rho) : List AVal → Nat → Nat → Prop
  | [], _, _ => True
  | a :: as, R, off => ∃ v, ρ.I R off = some v ∧ v.oneCell' = true ∧ VRel ρ a v ∧ IRel ρ as R (off + 1)
end

theorem PermOk.mono {ρ ρ' : Rho} (h : ρ.le ρ') {perm : Perm} {R off len cap clen : Nat} (hp : PermOk ρ perm R off len cap clen) : PermOk ρ' perm R off len cap clen := by
  cases perm with
  | no => trivial
  | full => exact hp
  | own p => obtain ⟨h0, h3, sz, h1, h2⟩ := hp; exact ⟨h0, h3, sz, h1, h.pm _ _ h2⟩

mutual
theorem VRel.mono {ρ ρ' : Rho} (h : ρ.le ρ') : ∀ (a : AVal) (v : Value), VRel ρ a v → VRel ρ' a v
  | .bool _, _, hv | .int _ _, _, hv | .str _, _, hv | .nilp, _, hv | .sl0, _, hv | .nilm, _, hv | .nilf, _, hv | .nili, _, hv => by simpa [VRel] using hv
  | .ptr b off, v, hv => by
    simp only [VRel] at hv ⊢; obtain ⟨R, h1, h2⟩ := hv; exact ⟨R, h.m _ _ h1, h2⟩
  | .map b, v, hv => by
    simp only [VRel] at hv ⊢; obtain ⟨R, h1, h2⟩ := hv; exact ⟨R, h.m _ _ h1, h2⟩
  | .yld b, v, hv => by
    simp only [VRel] at hv ⊢; obtain ⟨R, h1, h2⟩ := hv; exact ⟨R, h.m _ _ h1, h2⟩
  | .hsl b off len cap, v, hv => by
    simp only [VRel] at hv ⊢; obtain ⟨R, c, h1, h2⟩ := hv; exact ⟨R, c, h.m _ _ h1, h2⟩
  | .vref cs, v, hv => by
    simp only [VRel] at hv ⊢; obtain ⟨R, off, h1, h2⟩ := hv; exact ⟨R, off, h1, IRel.mono h cs R off h2⟩
  | .vsl cs len perm, v, hv => by
    simp only [VRel] at hv ⊢; exact hv.imp id fun ⟨R, off, cap, h1, h2, h3, h4⟩ => ⟨R, off, cap, h1, h2, IRel.mono h cs R off h3, h4.mono h⟩
  | .fn f first cap, v, hv => by
    simp only [VRel] at hv ⊢; obtain ⟨fs, cs, h1, h2, h3⟩ := hv; exact ⟨fs, cs, h1, VRels.mono h _ _ h2, VRels.mono h _ _ h3⟩
  | .iface t x, v, hv => by
    simp only [VRel] at hv ⊢; obtain ⟨y, h1, h2⟩ := hv; exact ⟨y, h1, VRel.mono h x y h2⟩
  | .agg cs, v, hv => by
    simp only [VRel] at hv ⊢; obtain ⟨vs, h1, h2⟩ := hv; exact ⟨vs, h1, CRel.mono h _ _ h2⟩
  | .tup cs, v, hv => by
    simp only [VRel] at hv ⊢; rcases hv with hv | ⟨vs, h1, h2⟩
    · exact .inl hv
    · exact .inr ⟨vs, h1, VRels.mono h _ _ h2⟩
theorem VRels.mono {ρ ρ' : Rho} (h : ρ.le ρ') : ∀ (as : List AVal) (vs : List Value), VRels ρ as vs → VRels ρ' as vs
  | [], vs, hv => by simpa [VRels] using hv
  | a :: as, vs, hv => by
    simp only [VRels] at hv ⊢; obtain ⟨v, vs', h1, h2, h3⟩ := hv; exact ⟨v, vs', h1, VRel.mono h a v h2, VRels.mono h as vs' h3⟩
theorem CRel.mono {ρ ρ' : Rho} (h : ρ.le ρ') : ∀ (as : List AVal) (vs : List Value), CRel ρ as vs → CRel ρ' as vs
  | [], vs, hv => by simpa [CRel] using hv
  | a :: as, vs, hv => by
    simp only [CRel] at hv ⊢; obtain ⟨v, vs', h1, h2, h3, h4⟩ := hv; exact ⟨v, vs', h1, h2, VRel.mono h a v h3, CRel.mono h as vs' h4⟩
theorem IRel.mono {ρ ρ' : Rho} (h : ρ.le ρ') : ∀ (as : List AVal) (R off : Nat), IRel ρ as R off → IRel ρ' as R off
  | [], _, _, _ => by simp [IRel]
  | a :: as, R, off, hv => by
    simp only [IRel] at hv ⊢; obtain ⟨v, h1, h2, h3, h4⟩ := hv; exact ⟨v, h.I _ _ _ h1, h2, VRel.mono h a v h3, IRel.mono h as R (off + 1) h4⟩
end

theorem CRel.length {ρ : Rho} : ∀ {as : List AVal} {vs : List Value}, CRel ρ as vs → vs.length = as.length
  | [], _, h => by simp only [CRel] at h; simp [h]
  | a :: as, _, h => by simp only [CRel] at h; obtain ⟨v, vs', rfl, _, _, h⟩ := h; simp [CRel.length h]
theorem VRels.length {ρ : Rho} : ∀ {as : List AVal} {vs : List Value}, VRels ρ as vs → vs.length = as.length
  | [], _, h => by simp only [VRels] at h; simp [h]
  | a :: as, _, h => by simp only [VRels] at h; obtain ⟨v, vs', rfl, _, h⟩ := h; simp [VRels.length h]
theorem CRel.one {ρ : Rho} : ∀ {as : List AVal} {vs : List Value}, CRel ρ as vs → ∀ v ∈ vs, v.oneCell' = true
  | [], _, h => by simp only [CRel] at h; simp [h]
  | a :: as, _, h => by
    simp only [CRel] at h; obtain ⟨v, vs', rfl, h1, _, h⟩ := h
    intro x hx; rcases List.mem_cons.1 hx with rfl | hx
    · exact h1
    · exact CRel.one h x hx
theorem CRel.append {ρ : Rho} : ∀ {as bs : List AVal} {vs us : List Value}, CRel ρ as vs → CRel ρ bs us → CRel ρ (as ++ bs) (vs ++ us)
  | [], bs, _, us, h, h' => by simp only [CRel] at h; simpa [h] using h'
  | a :: as, bs, _, us, h, h' => by
    simp only [CRel] at h; obtain ⟨v, vs', rfl, h1, h2, h3⟩ := h
    simp only [List.cons_append, CRel]; exact ⟨v, _, rfl, h1, h2, CRel.append h3 h'⟩
theorem VRels.append {ρ : Rho} : ∀ {as bs : List AVal} {vs us : List Value}, VRels ρ as vs → VRels ρ bs us → VRels ρ (as ++ bs) (vs ++ us)
  | [], bs, _, us, h, h' => by simp only [VRels] at h; simpa [h] using h'
  | a :: as, bs, _, us, h, h' => by
    simp only [VRels] at h; obtain ⟨v, vs', rfl, h1, h3⟩ := h
    simp only [List.cons_append, VRels]; exact ⟨v, _, rfl, h1, VRels.append h3 h'⟩
theorem CRel.drop {ρ : Rho} : ∀ (n : Nat) {as : List AVal} {vs : List Value}, CRel ρ as vs → CRel ρ (as.drop n) (vs.drop n)
  | 0, _, _, h => by simpa using h
  | n + 1, [], _, h => by simp only [CRel] at h; simp [h, CRel]
  | n + 1, a :: as, _, h => by simp only [CRel] at h; obtain ⟨v, vs', rfl, _, _, h⟩ := h; simpa using CRel.drop n h
theorem CRel.take {ρ : Rho} : ∀ (n : Nat) {as : List AVal} {vs : List Value}, CRel ρ as vs → CRel ρ (as.take n) (vs.take n)
  | 0, _, _, h => by simp [CRel]
  | n + 1, [], _, h => by simp only [CRel] at h; simp [h, CRel]
  | n + 1, a :: as, _, h => by
    simp only [CRel] at h; obtain ⟨v, vs', rfl, h1, h2, h⟩ := h
    simp only [List.take_succ_cons, CRel]; exact ⟨v, _, rfl, h1, h2, CRel.take n h⟩
theorem CRel.get {ρ : Rho} : ∀ {as : List AVal} {vs : List Value} (_ : CRel ρ as vs) (i : Nat) (a : AVal), as[i]? = some a → ∃ v, vs[i]? = some v ∧ v.oneCell' = true ∧ VRel ρ a v
  | [], _, _, i, a, ha => by simp at ha
  | a :: as, _, h, i, x, hx => by
    simp only [CRel] at h; obtain ⟨v, vs', rfl, h1, h2, h⟩ := h
    cases i with
    | zero => simp at hx; subst hx; exact ⟨v, by simp, h1, h2⟩
    | succ i => simpa using CRel.get h i x (by simpa using hx)
theorem VRels.get {ρ : Rho} : ∀ {as : List AVal} {vs : List Value} (_ : VRels ρ as vs) (i : Nat) (a : AVal), as[i]? = some a → ∃ v, vs[i]? = some v ∧ VRel ρ a v
  | [], _, _, i, a, ha => by simp at ha
  | a :: as, _, h, i, x, hx => by
    simp only [VRels] at h; obtain ⟨v, vs', rfl, h2, h⟩ := h
    cases i with
    | zero => simp at hx; subst hx; exact ⟨v, by simp, h2⟩
    | succ i => simpa using VRels.get h i x (by simpa using hx)
theorem VRels.get' {ρ : Rho} {as : List AVal} {vs : List Value} (h : VRels ρ as vs) (i : Nat) (v : Value) (hv : vs[i]? = some v) : ∃ a, as[i]? = some a ∧ VRel ρ a v := by
  have hl := h.length
  have hi : i < as.length := by rw [← hl]; exact (List.getElem?_eq_some_iff.1 hv).1
  obtain ⟨v', h1, h2⟩ := h.get i _ (List.getElem?_eq_getElem hi)
  rw [hv] at h1; cases h1
  exact ⟨_, List.getElem?_eq_getElem hi, h2⟩
theorem CRel.of_get {ρ : Rho} : ∀ {as : List AVal} {vs : List Value}, vs.length = as.length → (∀ (i : Nat) (a : AVal) (v : Value), as[i]? = some a → vs[i]? = some v → v.oneCell' = true ∧ VRel ρ a v) → CRel ρ as vs
  | [], vs, hl, _ => by simp only [CRel]; exact List.length_eq_zero_iff.1 hl
  | a :: as, [], hl, _ => by simp at hl
  | a :: as, v :: vs, hl, h => by
    simp only [CRel]
    obtain ⟨h1, h2⟩ := h 0 a v rfl rfl
    exact ⟨v, vs, rfl, h1, h2, CRel.of_get (by simpa using hl) fun i x y hx hy => h (i + 1) x y (by simpa using hx) (by simpa using hy)⟩
theorem VRels.of_get {ρ : Rho} : ∀ {as : List AVal} {vs : List Value}, vs.length = as.length → (∀ (i : Nat) (a : AVal) (v : Value), as[i]? = some a → vs[i]? = some v → VRel ρ a v) → VRels ρ as vs
  | [], vs, hl, _ => by simp only [VRels]; exact List.length_eq_zero_iff.1 hl
  | a :: as, [], hl, _ => by simp at hl
  | a :: as, v :: vs, hl, h => by
    simp only [VRels]
    exact ⟨v, vs, rfl, h 0 a v rfl rfl, VRels.of_get (by simpa using hl) fun i x y hx hy => h (i + 1) x y (by simpa using hx) (by simpa using hy)⟩
theorem VRels.set {ρ : Rho} {as : List AVal} {vs : List Value} (h : VRels ρ as vs) (i : Nat) {a : AVal} {v : Value} (ha : VRel ρ a v) : VRels ρ (as.set i a) (vs.set i v) := by
  refine VRels.of_get (by simp [h.length]) fun j x y hx hy => ?_
  rw [List.getElem?_set] at hx hy
  by_cases hij : i = j
  · subst hij
    rw [if_pos rfl] at hx hy
    split at hx <;> split at hy <;> simp at hx hy
    subst hx; subst hy; exact ha
  · rw [if_neg hij] at hx hy
    obtain ⟨v', h1, h2⟩ := h.get j x hx
    rw [hy] at h1; cases h1; exact h2
theorem CRel.set {ρ : Rho} {as : List AVal} {vs : List Value} (h : CRel ρ as vs) (i : Nat) {a : AVal} {v : Value} (h1 : v.oneCell' = true) (ha : VRel ρ a v) : CRel ρ (as.set i a) (vs.set i v) := by
  refine CRel.of_get (by simp [h.length]) fun j x y hx hy => ?_
  rw [List.getElem?_set] at hx hy
  by_cases hij : i = j
  · subst hij
    rw [if_pos rfl] at hx hy
    split at hx <;> split at hy <;> simp at hx hy
    subst hx; subst hy; exact ⟨h1, ha⟩
  · rw [if_neg hij] at hx hy
    obtain ⟨v', h1, h2, h3⟩ := h.get j x hx
    rw [hy] at h1; cases h1; exact ⟨h2, h3⟩

theorem IRel.get {ρ : Rho} : ∀ {as : List AVal} {R off : Nat} (_ : IRel ρ as R off) (i : Nat) (a : AVal), as[i]? = some a → ∃ v, ρ.I R (off + i) = some v ∧ v.oneCell' = true ∧ VRel ρ a v
  | [], _, _, _, i, a, ha => by simp at ha
  | a :: as, R, off, h, i, x, hx => by
    simp only [IRel] at h; obtain ⟨v, h0, h1, h2, h⟩ := h
    cases i with
    | zero => simp at hx; subst hx; exact ⟨v, by simpa using h0, h1, h2⟩
    | succ i =>
      obtain ⟨v, h3, h4, h5⟩ := IRel.get h i x (by simpa using hx)
      exact ⟨v, by rw [show off + (i + 1) = off + 1 + i by omega]; exact h3, h4, h5⟩
theorem IRel.of_get {ρ : Rho} : ∀ {as : List AVal} {R off : Nat}, (∀ i a, as[i]? = some a → ∃ v, ρ.I R (off + i) = some v ∧ v.oneCell' = true ∧ VRel ρ a v) → IRel ρ as R off
  | [], _, _, _ => by simp [IRel]
  | a :: as, R, off, h => by
    simp only [IRel]
    obtain ⟨v, h0, h1, h2⟩ := h 0 a rfl
    exact ⟨v, by simpa using h0, h1, h2, IRel.of_get fun i x hx => by
      obtain ⟨v, h3, h4, h5⟩ := h (i + 1) x (by simpa using hx)
      exact ⟨v, by rw [show off + 1 + i = off + (i + 1) by omega]; exact h3, h4, h5⟩⟩
theorem IRel.drop {ρ : Rho} (n : Nat) {as : List AVal} {R off : Nat} (h : IRel ρ as R off) : IRel ρ (as.drop n) R (off + n) :=
  IRel.of_get fun i a ha => by
    obtain ⟨v, h1, h2⟩ := h.get (n + i) a (by simpa [List.getElem?_drop] using ha)
    exact ⟨v, by rw [Nat.add_assoc]; exact h1, h2⟩
theorem IRel.take {ρ : Rho} (n : Nat) {as : List AVal} {R off : Nat} (h : IRel ρ as R off) : IRel ρ (as.take n) R off :=
  IRel.of_get fun i a ha => by
    rw [List.getElem?_take] at ha
    split at ha
    · exact h.get i a ha
    · cases ha

theorem VRel.cells {ρ : Rho} {a : AVal} {v : Value} (h : VRel ρ a v) (hn : ∀ l, a ≠ .tup l) : CRel ρ a.cells v.cells.toList := by
  cases a <;> simp only [VRel] at h
  case agg cs => obtain ⟨vs, rfl, h⟩ := h; simpa [AVal.cells, Value.cells] using h
  case tup l => exact absurd rfl (hn l)
  case fn f a b => obtain ⟨_, _, rfl, h1, h2⟩ := h; simp only [AVal.cells, Value.cells, CRel, VRel]; exact ⟨_, _, rfl, rfl, ⟨_, _, rfl, h1, h2⟩, rfl⟩
  case iface t x => obtain ⟨y, rfl, h⟩ := h; simp only [AVal.cells, Value.cells, CRel, VRel]; exact ⟨_, _, rfl, rfl, ⟨_, rfl, h⟩, rfl⟩
  case vsl cs len perm =>
    rcases h with ⟨h1, h2, h3, rfl⟩ | ⟨R, off, cap, rfl, h⟩
    · simp only [AVal.cells, Value.cells, CRel, VRel]; exact ⟨_, _, rfl, rfl, .inl ⟨h1, h2, h3, rfl⟩, rfl⟩
    · simp only [AVal.cells, Value.cells, CRel, VRel]; exact ⟨_, _, rfl, rfl, .inr ⟨R, off, cap, rfl, h⟩, rfl⟩
  case hsl b off len cap => obtain ⟨R, c, hm, rfl, h⟩ := h; simp only [AVal.cells, Value.cells, CRel, VRel]; exact ⟨_, _, rfl, rfl, ⟨R, c, hm, rfl, h⟩, rfl⟩
  case ptr b off => obtain ⟨R, hm, rfl⟩ := h; simp only [AVal.cells, Value.cells, CRel, VRel]; exact ⟨_, _, rfl, rfl, ⟨R, hm, rfl⟩, rfl⟩
  case map b => obtain ⟨R, hm, rfl⟩ := h; simp only [AVal.cells, Value.cells, CRel, VRel]; exact ⟨_, _, rfl, rfl, ⟨R, hm, rfl⟩, rfl⟩
  case yld b => obtain ⟨R, hm, rfl⟩ := h; simp only [AVal.cells, Value.cells, CRel, VRel]; exact ⟨_, _, rfl, rfl, ⟨R, hm, rfl⟩, rfl⟩
  case vref cs => obtain ⟨R, off, rfl, h⟩ := h; simp only [AVal.cells, Value.cells, CRel, VRel]; exact ⟨_, _, rfl, rfl, ⟨R, off, rfl, h⟩, rfl⟩
  all_goals (subst h; simp only [AVal.cells, Value.cells, CRel, VRel]; exact ⟨_, _, rfl, rfl, rfl, rfl⟩)

theorem VRel.isAgg {ρ : Rho} {a : AVal} {v : Value} (h : VRel ρ a v) (hn : ∀ l, a ≠ .tup l) : a.isAgg = true ↔ ∃ vs, v = .agg vs := by
  cases a <;> simp only [VRel] at h <;> simp only [AVal.isAgg]
  case agg cs => obtain ⟨vs, rfl, h⟩ := h; simp
  case tup l => exact absurd rfl (hn l)
  case fn f a b => obtain ⟨_, _, rfl, h1, h2⟩ := h; simp
  case iface t x => obtain ⟨y, rfl, h⟩ := h; simp
  case vsl cs len perm => rcases h with ⟨_, _, _, rfl⟩ | ⟨R, off, cap, rfl, h⟩ <;> simp
  case hsl b off len cap => obtain ⟨R, c, hm, rfl, h⟩ := h; simp
  case ptr b off => obtain ⟨R, hm, rfl⟩ := h; simp
  case map b => obtain ⟨R, hm, rfl⟩ := h; simp
  case yld b => obtain ⟨R, hm, rfl⟩ := h; simp
  case vref cs => obtain ⟨R, off, rfl, h⟩ := h; simp
  all_goals (subst h; simp)

theorem ofScalar_rel {ρ : Rho} {v : Value} {a : AVal} (h : ofScalar v = some a) : VRel ρ a v ∧ v.oneCell' = true := by
  unfold ofScalar at h
  split at h <;> simp at h <;> subst h <;> simp [VRel, Value.oneCell']

theorem mapM_ofScalar {ρ : Rho} : ∀ {l : List Value} {as : List AVal}, l.mapM ofScalar = some as → CRel ρ as l
  | [], as, h => by simp at h; subst h; simp [CRel]
  | v :: l, as, h => by
    simp only [List.mapM_cons, Option.pure_def, Option.bind_eq_bind, Option.bind_eq_some_iff, Option.some.injEq] at h
    obtain ⟨a, ha, as', has, rfl⟩ := h
    obtain ⟨h1, h2⟩ := ofScalar_rel (ρ := ρ) ha
    simp only [CRel]; exact ⟨v, l, rfl, h2, h1, mapM_ofScalar has⟩

theorem ofValue_rel {ρ : Rho} {v : Value} {a : AVal} (h : ofValue v = some a) : VRel ρ a v := by
  unfold ofValue at h
  split at h
  · rename_i cs
    simp only [Option.map_eq_some_iff] at h
    obtain ⟨as, has, rfl⟩ := h
    simp only [VRel]; exact ⟨cs, rfl, mapM_ofScalar has⟩
  · exact (ofScalar_rel h).1

theorem ofScalar_notup {v : Value} {a : AVal} (h : ofScalar v = some a) : ∀ l, a ≠ .tup l := by
  unfold ofScalar at h
  split at h <;> simp at h <;> subst h <;> simp
theorem ofValue_notup {v : Value} {a : AVal} (h : ofValue v = some a) : ∀ l, a ≠ .tup l := by
  unfold ofValue at h
  split at h
  · simp only [Option.map_eq_some_iff] at h; obtain ⟨as, has, rfl⟩ := h; simp
  · exact ofScalar_notup h

def PendRel : Option AExit → Option Code → Prop
  | none, c => c = none
  | some .ret, c => c = some .ret
  | some (.exit id), c => c = some (.exit id)
  | some .normal, _ => False

def CodeRel (P : Program) (a : ACode) (c : Code) : Prop := ∃ hint kp p, cCode P hint kp true p c = a

def KeyRel (ρ : Rho) (kagg : Bool) (k : List AVal) (v : Value) : Prop := CRel ρ k v.cells.toList ∧ (kagg = true ↔ ∃ vs, v = .agg vs)

def EntRels (ρ : Rho) (kagg : Bool) : List (List AVal × AVal) → List MapEntry → Prop
  | [], es => es = []
  | e :: l, es => ∃ x es', es = x :: es' ∧ KeyRel ρ kagg e.1 x.key ∧ VRel ρ e.2 x.val ∧ EntRels ρ kagg l es'

def ORel (P : Program) (ρ : Rho) : AObj → Obj → Prop
  | .cells cs, o => ∃ vs e rest, o = .cells vs e (0, 0) ∧ ∃ front, vs.toList = front ++ rest ∧ CRel ρ cs front
  | .map kagg es, o => ∃ es' clock, o = .map es' clock ∧ EntRels ρ kagg es es'.toList
  | .loop L, o => ∃ r, o = .loop r ∧ r.state = L.state ∧ PendRel L.pending r.pending ∧ VRels ρ L.fr r.tmps.toList ∧ r.params.toList = L.params ∧ CodeRel P L.assign r.assign ∧ CodeRel P L.body r.body

theorem EntRels.mono {ρ ρ' : Rho} (h : ρ.le ρ') {kagg : Bool} : ∀ {l : List (List AVal × AVal)} {es : List MapEntry}, EntRels ρ kagg l es → EntRels ρ' kagg l es
  | [], _, he => he
  | e :: l, _, he => by
    obtain ⟨x, es', h1, ⟨h2, h2'⟩, h3, h4⟩ := he
    exact ⟨x, es', h1, ⟨CRel.mono h _ _ h2, h2'⟩, VRel.mono h _ _ h3, EntRels.mono h h4⟩

theorem ORel.mono {P : Program} {ρ ρ' : Rho} (h : ρ.le ρ') {a : AObj} {o : Obj} (ho : ORel P ρ a o) : ORel P ρ' a o := by
  cases a with
  | cells cs => obtain ⟨vs, e, rest, h1, front, h2, h3⟩ := ho; exact ⟨vs, e, rest, h1, front, h2, CRel.mono h _ _ h3⟩
  | map kagg es => obtain ⟨es', clock, h1, h2⟩ := ho; exact ⟨es', clock, h1, h2.mono h⟩
  | loop L => obtain ⟨r, h1, h2, h3, h4, h5⟩ := ho; exact ⟨r, h1, h2, h3, VRels.mono h _ _ h4, h5⟩

theorem St.get_push_new (s : St) (o : AObj) : (s.push o).get s.n = some o := by simp [St.get, St.push]
theorem St.get_push_old {s : St} {o : AObj} {b : Nat} (h : b < s.n) : (s.push o).get b = s.get b := by
  simp only [St.get, St.push, h, if_true, show b < s.n + 1 by omega, if_true]
  rw [show s.n + 1 - 1 - b = (s.n - 1 - b) + 1 by omega, List.getElem?_cons_succ]
theorem St.get_lt {s : St} {b : Nat} {o : AObj} (h : s.get b = some o) : b < s.n := by
  unfold St.get at h; split at h
  · assumption
  · cases h
theorem St.get_push {s : St} {o : AObj} {b : Nat} : (s.push o).get b = if b = s.n then some o else s.get b := by
  split
  · rename_i h; rw [h]; exact St.get_push_new s o
  · rename_i h
    by_cases hb : b < s.n
    · exact St.get_push_old hb
    · simp [St.get, St.push, hb, show ¬ b < s.n + 1 by omega]
theorem St.get_set_same {s : St} {o o' : AObj} {b : Nat} (h : s.get b = some o') : (s.set b o).get b = some o := by
  have hb := St.get_lt h
  unfold St.get at h ⊢
  simp only [hb, if_true] at h
  simp only [St.set, hb, if_true]
  obtain ⟨hl, _⟩ := List.getElem?_eq_some_iff.1 h
  simp [hl]
theorem St.get_set_ne {s : St} {o : AObj} {b c : Nat} (h : c ≠ b) (hb : b < s.n) : (s.set b o).get c = s.get c := by
  show (if c < s.n then (s.objs.set (s.n - 1 - b) o)[s.n - 1 - c]? else none) = (if c < s.n then s.objs[s.n - 1 - c]? else none)
  by_cases hc : c < s.n
  · rw [if_pos hc, if_pos hc, List.getElem?_set_ne (by omega)]
  · rw [if_neg hc, if_neg hc]
@[simp] theorem St.set_n (s : St) (b : Nat) (o : AObj) : (s.set b o).n = s.n := rfl
@[simp] theorem St.set_pn (s : St) (b : Nat) (o : AObj) : (s.set b o).pn = s.pn := rfl
@[simp] theorem St.push_pn (s : St) (o : AObj) : (s.push o).pn = s.pn := rfl
@[simp] theorem St.set_cur (s : St) (b : Nat) (o : AObj) : (s.set b o).cur = s.cur := rfl
@[simp] theorem St.push_cur (s : St) (o : AObj) : (s.push o).cur = s.cur := rfl
@[simp] theorem St.fresh_n (s : St) (k : Nat) : (s.fresh k).n = s.n := rfl
@[simp] theorem St.grow_n (s : St) (p k : Nat) : (s.grow p k).n = s.n := rfl
@[simp] theorem St.fresh_get (s : St) (k b : Nat) : (s.fresh k).get b = s.get b := rfl
@[simp] theorem St.grow_get (s : St) (p k b : Nat) : (s.grow p k).get b = s.get b := rfl
@[simp] theorem St.fresh_pn (s : St) (k : Nat) : (s.fresh k).pn = s.pn + 1 := rfl
@[simp] theorem St.grow_pn (s : St) (p k : Nat) : (s.grow p k).pn = s.pn := rfl
theorem St.fresh_cur (s : St) (k q : Nat) : (s.fresh k).cur q = if q = s.pn then k else s.cur q := rfl
theorem St.grow_cur (s : St) (p k q : Nat) : (s.grow p k).cur q = if q = p then k else s.cur q := rfl
/-- The rights to rooms that hold now. -/
def St.lives (s : St) (k : Nat × Nat) : Prop := s.cur k.1 = k.2 ∧ 0 < k.2
@[simp] theorem St.push_n (s : St) (o : AObj) : (s.push o).n = s.n + 1 := rfl

/-- A block that may change. -/
def Rho.touch (ρ : Rho) (R : Nat) : Prop := (∃ b, ρ.m b = some R) ∨ (∃ p r, ρ.pm p = some r ∧ r.R = R)

structure Sim (P : Program) (ρ : Rho) (s : St) (w : World) : Prop where
  inj : ∀ b b' R, ρ.m b = some R → ρ.m b' = some R → b = b'
  mlt : ∀ b R, ρ.m b = some R → b < s.n ∧ R < w.heap.size
  obj : ∀ b R o, ρ.m b = some R → s.get b = some o → ∃ o', w.heap[R]? = some o' ∧ ORel P ρ o o'
  imm : ∀ R off v, ρ.I R off = some v → w.cell? ⟨R, off, none⟩ = some v
  free : ∀ b R, ρ.m b = some R → ∀ off, ρ.I R off = none
  plt : ∀ p r, ρ.pm p = some r → p.1 < s.pn ∧ r.R < w.heap.size
  ver : ∀ p r, ρ.pm p = some r → p.2 ≤ s.cur p.1
  pnm : ∀ p r b, ρ.pm p = some r → ρ.m b ≠ some r.R
  room : ∀ p r, s.lives p → ρ.pm p = some r →
    ∃ cs e, w.heap[r.R]? = some (.cells cs e (0, 0)) ∧ r.off + r.cap * r.sz ≤ cs.size ∧ ∀ off, r.off + r.len * r.sz ≤ off → ρ.I r.R off = none
  apart : ∀ p q r r', s.lives p → s.lives q → ρ.pm p = some r → ρ.pm q = some r' → r.R = r'.R → p = q

/-- How the relation's data and the world go on. -/
structure Fwd (ρ : Rho) (w : World) (ρ' : Rho) (w' : World) : Prop where
  le : ρ.le ρ'
  new : ∀ R, ρ'.touch R → ρ.touch R ∨ w.heap.size ≤ R
  size : w.heap.size ≤ w'.heap.size
  kept : ∀ R, R < w.heap.size → ¬ ρ.touch R → w'.heap[R]? = w.heap[R]?
  os : w'.os = w.os
  output : w'.output = w.output

theorem Fwd.refl (ρ : Rho) (w : World) : Fwd ρ w ρ w := ⟨ρ.le_refl, fun _ h => .inl h, Nat.le_refl _, fun _ _ _ => rfl, rfl, rfl⟩
theorem Fwd.trans {ρ ρ' ρ'' : Rho} {w w' w'' : World} (h : Fwd ρ w ρ' w') (h' : Fwd ρ' w' ρ'' w'') : Fwd ρ w ρ'' w'' where
  le := h.le.trans h'.le
  new R hR := by
    rcases h'.new R hR with hR | hR
    · exact h.new R hR
    · exact .inr (Nat.le_trans h.size hR)
  size := Nat.le_trans h.size h'.size
  os := h'.os.trans h.os
  output := h'.output.trans h.output
  kept R hlt hR := by
    rw [h'.kept R (Nat.lt_of_lt_of_le hlt h.size) ?_, h.kept R hlt hR]
    intro hR'
    rcases h.new R hR' with h1 | h1
    · exact hR h1
    · omega

theorem Fwd.of_heap {ρ : Rho} {w w' : World} (h : w'.heap = w.heap) (ho : w'.os = w.os := by rfl) (hp : w'.output = w.output := by rfl) : Fwd ρ w ρ w' :=
  ⟨ρ.le_refl, fun _ h => .inl h, by rw [h]; exact Nat.le_refl _, fun _ _ _ => by rw [h], ho, hp⟩

theorem Sim.of_heap {P : Program} {ρ : Rho} {s : St} {w w' : World} (h : Sim P ρ s w) (hw : w'.heap = w.heap) : Sim P ρ s w' where
  inj := h.inj
  mlt b R e := by rw [hw]; exact h.mlt b R e
  obj b R o e g := by rw [hw]; exact h.obj b R o e g
  imm R off v e := by have := h.imm R off v e; simpa [World.cell?, hw] using this
  free := h.free
  plt p r e := by rw [hw]; exact h.plt p r e
  ver := h.ver
  pnm := h.pnm
  room p r e g := by rw [hw]; exact h.room p r e g
  apart := h.apart

end Go.Proofs.Ytlhfeiacigmliaa

/- The moves of the relation: new blocks, stores, immutable rows, rooms. -/
namespace Go.Proofs.Ytlhfeiacigmliaa
open Go

def Rho.bind (ρ : Rho) (b R : Nat) : Rho := { ρ with m := fun x => if x = b then some R else ρ.m x }
def Rho.fix (ρ : Rho) (R lo : Nat) (vs : List Value) : Rho :=
  { ρ with I := fun R' off => if R' = R ∧ lo ≤ off ∧ off < lo + vs.length then vs[off - lo]? else ρ.I R' off }
def Rho.rm (ρ : Rho) (p : Nat × Nat) (r : PRec) : Rho := { ρ with pm := fun x => if x = p then some r else ρ.pm x }

theorem Rho.le_bind {ρ : Rho} {b R : Nat} (h : ρ.m b = none) : ρ.le (ρ.bind b R) where
  m x R' e := by
    simp only [Rho.bind]; split
    · rename_i hx; rw [hx, h] at e; cases e
    · exact e
  I _ _ _ e := e
  pm _ _ e := e
theorem Rho.le_fix {ρ : Rho} {R lo : Nat} {vs : List Value} (h : ∀ off, lo ≤ off → off < lo + vs.length → ρ.I R off = none) : ρ.le (ρ.fix R lo vs) where
  m _ _ e := e
  I R' off v e := by
    simp only [Rho.fix]; split
    · rename_i hx; obtain ⟨rfl, h1, h2⟩ := hx; rw [h off h1 h2] at e; cases e
    · exact e
  pm _ _ e := e
theorem Rho.le_rm {ρ : Rho} {p : Nat × Nat} {r : PRec} (h : ρ.pm p = none) : ρ.le (ρ.rm p r) where
  m _ _ e := e
  I _ _ _ e := e
  pm x R' e := by
    simp only [Rho.rm]; split
    · rename_i hx; rw [hx, h] at e; cases e
    · exact e

theorem Sim.m_new {P : Program} {ρ : Rho} {s : St} {w : World} (h : Sim P ρ s w) {b : Nat} (hb : s.n ≤ b) : ρ.m b = none := by
  cases e : ρ.m b with
  | none => rfl
  | some R => have := (h.mlt b R e).1; omega
theorem Sim.pm_new {P : Program} {ρ : Rho} {s : St} {w : World} (h : Sim P ρ s w) {b : Nat × Nat} (hb : s.pn ≤ b.1) : ρ.pm b = none := by
  cases e : ρ.pm b with
  | none => rfl
  | some R => have := (h.plt b R e).1; omega
theorem Sim.I_new {P : Program} {ρ : Rho} {s : St} {w : World} (h : Sim P ρ s w) {R : Nat} (hb : w.heap.size ≤ R) (off : Nat) : ρ.I R off = none := by
  cases e : ρ.I R off with
  | none => rfl
  | some v =>
    have h1 := h.imm R off v e
    simp only [World.cell?, Array.getElem?_eq_none hb] at h1
    cases h1

theorem Sim.pm_ver {P : Program} {ρ : Rho} {s : St} {w : World} (h : Sim P ρ s w) {p : Nat × Nat} (hb : s.cur p.1 < p.2) : ρ.pm p = none := by
  cases e : ρ.pm p with
  | none => rfl
  | some R => have := h.ver p R e; omega

theorem heap_alloc_old {w : World} {o : Obj} {R : Nat} (h : R < w.heap.size) : (w.alloc o).heap[R]? = w.heap[R]? := by
  simp only [World.alloc]; rw [Array.getElem?_push]; rw [if_neg (by omega)]
theorem heap_alloc_new (w : World) (o : Obj) : (w.alloc o).heap[w.heap.size]? = some o := by simp only [World.alloc, Array.getElem?_push_size]
theorem size_alloc (w : World) (o : Obj) : (w.alloc o).heap.size = w.heap.size + 1 := by simp only [World.alloc, Array.size_push]
theorem cell_alloc_old {w : World} {o : Obj} {a : Addr} {v : Value} (h : w.cell? a = some v) : (w.alloc o).cell? a = some v := by
  have hlt : a.block < w.heap.size := by
    rcases Nat.lt_or_ge a.block w.heap.size with h' | h'
    · exact h'
    · simp [World.cell?, Array.getElem?_eq_none h'] at h
  rw [World.cell?_of_block (heap_alloc_old hlt)]; exact h

theorem Sim.alloc {P : Program} {ρ : Rho} {s : St} {w : World} (h : Sim P ρ s w) (o : Obj) : Sim P ρ s (w.alloc o) where
  inj := h.inj
  mlt b R e := by have := h.mlt b R e; rw [size_alloc]; omega
  obj b R o' e g := by rw [heap_alloc_old (h.mlt b R e).2]; exact h.obj b R o' e g
  imm R off v e := cell_alloc_old (h.imm R off v e)
  free := h.free
  plt p r e := by have := h.plt p r e; rw [size_alloc]; omega
  ver := h.ver
  pnm := h.pnm
  room p r e g := by rw [heap_alloc_old (h.plt p r g).2]; exact h.room p r e g
  apart := h.apart
theorem Fwd.alloc (ρ : Rho) (w : World) (o : Obj) : Fwd ρ w ρ (w.alloc o) :=
  ⟨ρ.le_refl, fun _ h => .inl h, by rw [size_alloc]; omega, fun _ hR _ => heap_alloc_old hR, rfl, rfl⟩

/-- A new block of both sides. -/
theorem Sim.push {P : Program} {ρ : Rho} {s : St} {w : World} (h : Sim P ρ s w) {a : AObj} {o : Obj} (ho : ORel P (ρ.bind s.n w.heap.size) a o) :
    Sim P (ρ.bind s.n w.heap.size) (s.push a) (w.alloc o) where
  inj b b' R e e' := by
    simp only [Rho.bind] at e e'
    split at e <;> split at e'
    · omega
    · cases e; have := (h.mlt b' _ e').2; omega
    · cases e'; have := (h.mlt b _ e).2; omega
    · exact h.inj b b' R e e'
  mlt b R e := by
    simp only [Rho.bind] at e
    rw [size_alloc, St.push_n]
    split at e
    · cases e; omega
    · have := h.mlt b R e; omega
  obj b R o' e g := by
    simp only [Rho.bind] at e
    rw [St.get_push] at g
    split at e
    · rename_i hb
      rw [if_pos hb] at g; cases g; cases e
      exact ⟨o, heap_alloc_new w o, ho⟩
    · rename_i hb
      rw [if_neg hb] at g
      obtain ⟨o'', h1, h2⟩ := h.obj b R o' e g
      exact ⟨o'', by rw [heap_alloc_old (h.mlt b R e).2]; exact h1, h2.mono (Rho.le_bind (h.m_new (Nat.le_refl _)))⟩
  imm R off v e := cell_alloc_old (h.imm R off v e)
  free b R e off := by
    simp only [Rho.bind] at e
    split at e
    · cases e; exact h.I_new (Nat.le_refl _) off
    · exact h.free b R e off
  plt p r e := by have := h.plt p r e; rw [size_alloc, St.push_pn]; omega
  ver := h.ver
  pnm p r b e := by
    simp only [Rho.bind]
    split
    · intro h'; have h'' := Option.some.inj h'; have := (h.plt p r e).2; omega
    · exact h.pnm p r b e
  room p r e g := by rw [heap_alloc_old (h.plt p r g).2]; exact h.room p r e g
  apart := h.apart
theorem Fwd.push {P : Program} {ρ : Rho} {s : St} {w : World} (h : Sim P ρ s w) (o : Obj) : Fwd ρ w (ρ.bind s.n w.heap.size) (w.alloc o) where
  le := Rho.le_bind (h.m_new (Nat.le_refl _))
  new R hR := by
    rcases hR with ⟨b, hb⟩ | hR
    · simp only [Rho.bind] at hb
      split at hb
      · cases hb; exact .inr (Nat.le_refl _)
      · exact .inl (.inl ⟨b, hb⟩)
    · exact .inl (.inr hR)
  size := by rw [size_alloc]; omega
  kept R hR _ := heap_alloc_old hR
  os := rfl
  output := rfl

theorem heap_put_ne {w : World} {R R' : Nat} {o : Obj} (h : R ≠ R') : ({ w with heap := w.heap.setIfInBounds R o } : World).heap[R']? = w.heap[R']? := by
  simp [Array.getElem?_setIfInBounds_ne h]
theorem heap_put_same {w : World} {R : Nat} {o : Obj} (h : R < w.heap.size) : ({ w with heap := w.heap.setIfInBounds R o } : World).heap[R]? = some o := by
  simp [h]

/-- A block of both sides, written anew. -/
theorem Sim.put {P : Program} {ρ : Rho} {s : St} {w w' : World} (h : Sim P ρ s w) {b R : Nat} {a old : AObj} {o : Obj} (hm : ρ.m b = some R) (hg : s.get b = some old)
    (ho : ORel P ρ a o) (hw : w'.heap = w.heap.setIfInBounds R o) : Sim P ρ (s.set b a) w' where
  inj := h.inj
  mlt c Q e := by rw [hw]; simpa using h.mlt c Q e
  obj c Q o' e g := by
    rw [hw]
    by_cases hc : c = b
    · subst hc
      rw [St.get_set_same hg] at g; cases g
      rw [hm] at e; cases e
      exact ⟨o, by simp [(h.mlt c R hm).2], ho⟩
    · rw [St.get_set_ne hc (St.get_lt hg)] at g
      have hQ : R ≠ Q := fun e' => hc (h.inj c b Q e (e' ▸ hm))
      rw [Array.getElem?_setIfInBounds_ne hQ]
      exact h.obj c Q o' e g
  imm Q off v e := by
    have hQ : R ≠ Q := fun e' => by subst e'; rw [h.free b R hm off] at e; cases e
    have : w'.heap[Q]? = w.heap[Q]? := by rw [hw, Array.getElem?_setIfInBounds_ne hQ]
    rw [World.cell?_of_block (w := w) (a := ⟨Q, off, none⟩) this]; exact h.imm Q off v e
  free := h.free
  plt p r e := by rw [hw]; simpa using h.plt p r e
  ver := h.ver
  pnm := h.pnm
  room p r e g := by
    have hQ : R ≠ r.R := fun e' => h.pnm p r b g (e' ▸ hm)
    rw [hw, Array.getElem?_setIfInBounds_ne hQ]
    exact h.room p r e g
  apart := h.apart
theorem Fwd.put {ρ : Rho} {w w' : World} {b R : Nat} {o : Obj} (hm : ρ.m b = some R) (hw : w'.heap = w.heap.setIfInBounds R o) (ho : w'.os = w.os := by rfl) (hp : w'.output = w.output := by rfl) : Fwd ρ w ρ w' where
  os := ho
  output := hp
  le := ρ.le_refl
  new _ h := .inl h
  size := by rw [hw]; simp
  kept Q _ hQ := by
    have : R ≠ Q := fun e => hQ (.inl ⟨b, e ▸ hm⟩)
    rw [hw, Array.getElem?_setIfInBounds_ne this]

/-- A new row of cells that never change. -/
theorem Sim.fixNew {P : Program} {ρ : Rho} {s : St} {w w' : World} (h : Sim P ρ s w) {vs : Array Value} {e : TypeId} {fix : List Value} {rest : List Value}
    (hv : vs.toList = fix ++ rest) (hw : w'.heap = w.heap.push (.cells vs e)) : Sim P (ρ.fix w.heap.size 0 fix) s w' := by
  have hold : ∀ {R : Nat}, R < w.heap.size → w'.heap[R]? = w.heap[R]? := fun {R} hR => by rw [hw, Array.getElem?_push, if_neg (by omega)]
  have hsz : w'.heap.size = w.heap.size + 1 := by rw [hw]; simp
  have hle : ρ.le (ρ.fix w.heap.size 0 fix) := Rho.le_fix fun off _ _ => h.I_new (Nat.le_refl _) off
  refine ⟨h.inj, fun b R e' => ?_, fun b R o e' g => ?_, fun R off v e' => ?_, fun b R e' off => ?_, fun p r e' => ?_, h.ver, h.pnm, fun p r e' g => ?_, h.apart⟩
  · have := h.mlt b R e'; omega
  · obtain ⟨o', h1, h2⟩ := h.obj b R o e' g
    exact ⟨o', by rw [hold (h.mlt b R e').2]; exact h1, h2.mono hle⟩
  · simp only [Rho.fix] at e'
    split at e'
    · rename_i hx
      obtain ⟨rfl, _, hlt⟩ := hx
      have hnew : w'.heap[w.heap.size]? = some (.cells vs e) := by rw [hw]; simp
      simp only [World.cell?, hnew, Option.isSome_none, Bool.false_eq_true, if_false]
      rw [← Array.getElem?_toList, hv, List.getElem?_append_left (by omega)]
      simpa using e'
    · have h1 := h.imm R off v e'
      have hlt : R < w.heap.size := by
        rcases Nat.lt_or_ge R w.heap.size with h' | h'
        · exact h'
        · rw [h.I_new h' off] at e'; cases e'
      rw [World.cell?_of_block (w := w) (a := ⟨R, off, none⟩) (hold hlt)]; exact h1
  · simp only [Rho.fix]
    split
    · rename_i hx; obtain ⟨rfl, _⟩ := hx; have := (h.mlt b _ e').2; omega
    · exact h.free b R e' off
  · have := h.plt p r e'; omega
  · obtain ⟨cs, e'', h1, h2, h3⟩ := h.room p r e' g
    refine ⟨cs, e'', by rw [hold (h.plt p r g).2]; exact h1, h2, fun off ho => ?_⟩
    simp only [Rho.fix]
    split
    · rename_i hx; obtain ⟨h4, _⟩ := hx; have := (h.plt p r g).2; omega
    · exact h3 off ho
theorem Fwd.fixNew {P : Program} {ρ : Rho} {s : St} {w w' : World} (h : Sim P ρ s w) {o : Obj} (fix : List Value) (hw : w'.heap = w.heap.push o) (ho : w'.os = w.os := by rfl) (hp : w'.output = w.output := by rfl) : Fwd ρ w (ρ.fix w.heap.size 0 fix) w' where
  os := ho
  output := hp
  le := Rho.le_fix fun off _ _ => h.I_new (Nat.le_refl _) off
  new R hR := .inl hR
  size := by rw [hw]; simp
  kept R hR _ := by rw [hw, Array.getElem?_push, if_neg (by omega)]

/-- Room behind a new row. -/
theorem Sim.roomNew {P : Program} {ρ : Rho} {s : St} {w : World} (h : Sim P ρ s w) {k : Nat × Nat} {r : PRec} (hk : k.1 < s.pn) (hnone : ρ.pm k = none) (hcur : s.cur k.1 = k.2) (hlt : r.R < w.heap.size) (hnm : ∀ b, ρ.m b ≠ some r.R)
    (hroom : ∃ cs e, w.heap[r.R]? = some (.cells cs e (0, 0)) ∧ r.off + r.cap * r.sz ≤ cs.size ∧ ∀ off, r.off + r.len * r.sz ≤ off → ρ.I r.R off = none)
    (hap : ∀ p r', s.lives p → ρ.pm p = some r' → r'.R ≠ r.R) : Sim P (ρ.rm k r) s w := by
  have hle : ρ.le (ρ.rm k r) := Rho.le_rm hnone
  refine ⟨h.inj, h.mlt, fun b R o e g => ?_, h.imm, h.free, fun p r' e => ?_, fun p r' e => ?_, fun p r' b e => ?_, fun p r' e g => ?_, fun p q r1 r2 e e' g g' he => ?_⟩
  · obtain ⟨o', h1, h2⟩ := h.obj b R o e g
    exact ⟨o', h1, h2.mono hle⟩
  · simp only [Rho.rm] at e
    split at e
    · rename_i hp; cases e; rw [hp]; exact ⟨hk, hlt⟩
    · exact h.plt p r' e
  · simp only [Rho.rm] at e
    split at e
    · rename_i hp; rw [hp]; omega
    · exact h.ver p r' e
  · simp only [Rho.rm] at e
    split at e
    · cases e; exact hnm b
    · exact h.pnm p r' b e
  · simp only [Rho.rm] at g
    split at g
    · cases g; exact hroom
    · exact h.room p r' e g
  · simp only [Rho.rm] at g g'
    split at g <;> split at g'
    · rename_i hp hq; rw [hp, hq]
    · cases g; exact absurd he.symm (hap q r2 e' g')
    · cases g'; exact absurd he (hap p r1 e g)
    · exact h.apart p q r1 r2 e e' g g' he

/-- A room's old rights go. -/
theorem Sim.dead {P : Program} {ρ : Rho} {s : St} {w : World} (h : Sim P ρ s w) {p k : Nat} (hk : s.cur p < k) : Sim P ρ (s.grow p k) w := by
  have hl : ∀ q r, (s.grow p k).lives q → ρ.pm q = some r → s.lives q := by
    intro q r e g
    obtain ⟨e1, e2⟩ := e
    rw [St.grow_cur] at e1
    split at e1
    · rename_i hq; have := h.ver q r g; rw [hq] at this; omega
    · exact ⟨e1, e2⟩
  refine ⟨h.inj, h.mlt, h.obj, h.imm, h.free, h.plt, fun q r e => ?_, h.pnm, fun q r e g => h.room q r (hl q r e g) g, fun q q' r r' e e' g g' => h.apart q q' r r' (hl q r e g) (hl q' r' e' g') g g'⟩
  have := h.ver q r e
  rw [St.grow_cur]; split
  · rename_i hq; rw [hq] at this; omega
  · exact this
theorem Sim.fresh {P : Program} {ρ : Rho} {s : St} {w : World} (h : Sim P ρ s w) (k : Nat) : Sim P ρ (s.fresh k) w := by
  have hne : ∀ q r, ρ.pm q = some r → q.1 ≠ s.pn := fun q r e => by have := (h.plt q r e).1; omega
  have hc : ∀ q r, ρ.pm q = some r → (s.fresh k).cur q.1 = s.cur q.1 := fun q r e => by rw [St.fresh_cur, if_neg (hne q r e)]
  have hl : ∀ q r, (s.fresh k).lives q → ρ.pm q = some r → s.lives q := fun q r e g => ⟨by rw [← hc q r g]; exact e.1, e.2⟩
  refine ⟨h.inj, h.mlt, h.obj, h.imm, h.free, fun p r e => ?_, fun q r e => ?_, h.pnm, fun q r e g => h.room q r (hl q r e g) g, fun q q' r r' e e' g g' => h.apart q q' r r' (hl q r e g) (hl q' r' e' g') g g'⟩
  · have := h.plt p r e; simp; omega
  · rw [hc q r e]; exact h.ver q r e

end Go.Proofs.Ytlhfeiacigmliaa

/- The operations that touch no call: each gives what the evaluator gives. -/
namespace Go.Proofs.Ytlhfeiacigmliaa
open Go

def OpOk (P : Program) (ρ : Rho) (w : World) (r : Result Next) (v : AVal) (s' : St) : Prop :=
  ∃ nx v' w' ρ', r = .ok nx w' ∧ (nx = .value v' ∨ (nx = .skip ∧ v' = undef)) ∧ VRel ρ' v v' ∧ Sim P ρ' s' w' ∧ Fwd ρ w ρ' w'

section
variable {P : Program} {ρ : Rho} {s : St} {w : World}

theorem OpOk.same {v : AVal} {v' : Value} {r : Result Next} (hs : Sim P ρ s w) (hr : r = .ok (.value v') w) (h : VRel ρ v v') : OpOk P ρ w r v s :=
  ⟨_, v', w, ρ, hr, .inl rfl, h, hs, Fwd.refl ρ w⟩

theorem splice_length {α : Type} : ∀ (new cs : List α) (off : Nat), (splice cs off new).length = cs.length
  | [], cs, off => rfl
  | v :: vs, cs, off => by simp only [splice]; rw [splice_length vs]; simp
theorem splice_eq {α : Type} : ∀ (new cs : List α) (off : Nat), off + new.length ≤ cs.length → splice cs off new = cs.take off ++ new ++ cs.drop (off + new.length)
  | [], cs, off, _ => by simp [splice]
  | v :: vs, cs, off, h => by
    simp only [splice, List.length_cons] at h ⊢
    rw [splice_eq vs _ (off + 1) (by simp; omega)]
    rw [List.take_set, List.drop_set, if_pos (by omega)]
    have h1 : off < cs.length := by omega
    rw [show (List.take (off + 1) cs).set off v = cs.take off ++ [v] from ?_]
    · simp; omega
    · rw [List.take_succ_eq_append_getElem h1, List.set_append_right _ _ (by simp; omega)]
      simp [Nat.min_eq_left (Nat.le_of_lt h1)]
theorem CRel.splice {ρ : Rho} : ∀ {new : List AVal} {nv : List Value} {cs : List AVal} {vs : List Value} (off : Nat), CRel ρ cs vs → CRel ρ new nv → CRel ρ (splice cs off new) (splice vs off nv)
  | [], nv, cs, vs, off, h, h' => by simp only [CRel] at h'; subst h'; simpa [Ytlhfeiacigmliaa.splice] using h
  | a :: as, nv, cs, vs, off, h, h' => by
    simp only [CRel] at h'; obtain ⟨v, nv', rfl, h1, h2, h3⟩ := h'
    simp only [Ytlhfeiacigmliaa.splice]
    exact CRel.splice (off + 1) (h.set off h1 h2) h3

theorem foldl_set (off : Nat) : ∀ (vs : List Value) (k : Nat) (cs : Array Value),
    ((vs.zipIdx k).foldl (fun cs (x : Value × Nat) => cs.setIfInBounds (off + x.2) x.1) cs).toList = splice cs.toList (off + k) vs
  | [], k, cs => rfl
  | v :: vs, k, cs => by
    simp only [List.zipIdx_cons, List.foldl_cons, splice]
    rw [foldl_set off vs (k + 1)]
    simp [Nat.add_assoc]

theorem fill_rel {place : Nat → Option (Nat × Nat)} {fr : List AVal} {e : Operand → Value} :
    ∀ {parts : List (Nat × Operand)} {ps : List (Nat × Nat × AOpd)} {cells : Array Value} {ca out : List AVal},
      parts.mapM (fun (x : Nat × Operand) => (do let (off, size) ← place x.1; pure (off, size, ← cOpd x.2) : Option (Nat × Nat × AOpd))) = some ps →
      (∀ x ∈ parts, ∀ y, cOpd x.2 = some y → VRel ρ (y.eval fr) (e x.2)) →
      CRel ρ ca cells.toList → fillA ca (ps.map fun (a, b, x) => (a, b, x.eval fr)) = some out →
      ∃ o, Instr.fill place cells (parts.map fun (i, x) => (i, e x)) = some o ∧ CRel ρ out o.toList
  | [], ps, cells, ca, out, hm, _, hr, hf => by
    simp at hm; subst hm
    simp only [List.map_nil, fillA, Option.some.injEq] at hf; subst hf
    exact ⟨cells, rfl, hr⟩
  | (i, x) :: parts, ps, cells, ca, out, hm, ho, hr, hf => by
    simp only [List.mapM_cons, Option.pure_def, Option.bind_eq_bind, Option.bind_eq_some_iff, Option.some.injEq] at hm
    obtain ⟨q, ⟨⟨off, size⟩, hp, y, hy, rfl⟩, ps', hps', rfl⟩ := hm
    simp only [List.map_cons, fillA] at hf
    split at hf
    · rename_i hc
      obtain ⟨hc0, hc1, hc2⟩ := hc
      have hv := ho (i, x) (by simp) y hy
      have hcell : CRel ρ (y.eval fr).cells (e x).cells.toList := hv.cells fun l hl => by rw [hl] at hc0; cases hc0
      have hl1 := hcell.length
      have hl2 := hr.length
      have hstep : ((e x).cells.zipIdx.foldl (fun cs (x : Value × Nat) => cs.setIfInBounds (off + x.2) x.1) cells).toList = splice cells.toList off (e x).cells.toList := by
        have := foldl_set off (e x).cells.toList 0 cells
        rw [Nat.add_zero] at this
        rw [← this, ← Array.foldl_toList, Array.toList_zipIdx]
      have hnew : CRel ρ (splice ca off (y.eval fr).cells) ((e x).cells.zipIdx.foldl (fun cs (x : Value × Nat) => cs.setIfInBounds (off + x.2) x.1) cells).toList := by
        rw [hstep]; exact hr.splice off hcell
      obtain ⟨o, h1, h2⟩ := fill_rel hps' (fun z hz => ho z (by simp [hz])) hnew hf
      refine ⟨o, ?_, h2⟩
      simp only [List.map_cons, Instr.fill, hp]
      rw [if_neg]
      · exact h1
      · simp only [Bool.or_eq_true, decide_eq_true_eq, ne_eq, not_or, Decidable.not_not]
        simp only [Array.length_toList] at hl1 hl2
        omega
    · cases hf

variable {fr : List AVal} {e : Operand → Value}

theorem run_zero {t : TypeId} {z : AVal} (h : zeroT P t = some z) : ∃ v, (∀ w, (zeroValue t).run P w = .ok v w) ∧ VRel ρ z v ∧ (∀ l, z ≠ .tup l) := by
  unfold zeroT at h
  simp only [Option.bind_eq_some_iff] at h
  obtain ⟨v, ⟨i, hi, hz⟩, hv⟩ := h
  exact ⟨v, fun w => by simp [zeroValue, typeInfo, hi, hz], ofValue_rel hv, ofValue_notup hv⟩
theorem run_size {t : TypeId} {n : Nat} (h : sizeT P t = some n) (w : World) : (sizeOf t).run P w = .ok n w := by
  unfold sizeT at h
  simp only [Option.map_eq_some_iff] at h
  obtain ⟨i, hi, rfl⟩ := h
  simp [sizeOf, typeInfo, hi]
theorem run_isAgg {t : TypeId} {b : Bool} (h : aggT P t = some b) (w : World) : (isAgg t).run P w = .ok b w := by
  unfold aggT at h
  cases hu : P.underlying t with
  | none => simp [hu] at h
  | some d => cases d <;> simp [hu] at h <;> subst h <;> simp [isAgg, run_underlying hu]

/-- Is an operand's value related? -/
def HOp (ρ : Rho) (fr : List AVal) (e : Operand → Value) (x : Operand) : Prop := ∀ y, cOpd x = some y → VRel ρ (y.eval fr) (e x)

theorem cOpds_rel {l : List Operand} {ys : List AOpd} (h : l.mapM cOpd = some ys) (ho : ∀ x ∈ l, HOp ρ fr e x) : VRels ρ (evals ys fr) (l.map e) := by
  induction l generalizing ys with
  | nil => simp at h; subst h; simp [evals, VRels]
  | cons x l ih =>
    simp only [List.mapM_cons, Option.pure_def, Option.bind_eq_bind, Option.bind_eq_some_iff, Option.some.injEq] at h
    obtain ⟨y, hy, ys', hys, rfl⟩ := h
    simp only [evals, List.map_cons, VRels]
    exact ⟨_, _, rfl, ho x (by simp) y hy, ih hys fun z hz => ho z (by simp [hz])⟩

theorem ok_move (hs : Sim P ρ s w) {x : Operand} {y : AOpd} (hx : HOp ρ fr e x) (hc : cOpd x = some y) :
    OpOk P ρ w ((Pure.pure (Next.value (e x)) : Sem Next).run P w) (y.eval fr) s := OpOk.same hs rfl (hx y hc)

theorem ok_pick (hs : Sim P ρ s w) {c a b : Operand} {c' a' b' : AOpd} (hc : HOp ρ fr e c) (ha : HOp ρ fr e a) (hb : HOp ρ fr e b) (h1 : cOpd c = some c') (h2 : cOpd a = some a') (h3 : cOpd b = some b')
    {v : AVal} {s' : St} (H : Han) (hev : evalOp H (.pick c' a' b') fr s = some (v, s')) :
    OpOk P ρ w ((do pure (Next.value (if ← asBool (e c) then e a else e b)) : Sem Next).run P w) v s' := by
  simp only [evalOp] at hev
  split at hev
  · rename_i t ht
    cases hev
    have h := hc c' h1
    rw [ht] at h; simp only [VRel] at h
    refine OpOk.same (v' := if t then e a else e b) hs (by rw [h]; simp [asBool]) ?_
    cases t
    · exact hb b' h3
    · exact ha a' h2
  · cases hev

theorem ORel_cells {ρ : Rho} {cs : List AVal} {vs : Array Value} {t : TypeId} (h : CRel ρ cs vs.toList) : ORel P ρ (.cells cs) (.cells vs t) :=
  ⟨vs, t, [], rfl, vs.toList, by simp, h⟩

/-- A new variable of both sides. -/
theorem ok_newVar (hs : Sim P ρ s w) {t : TypeId} {cs : List AVal} {v : Value} (h : CRel ρ cs v.cells.toList) :
    OpOk P ρ w ((do pure (Next.value (← (do pure (Value.pointer (some (← newVar t v))) : Sem Value))) : Sem Next).run P w) (.ptr s.n 0) (s.push (.cells cs)) := by
  refine ⟨_, .pointer (some ⟨w.heap.size, 0, none⟩), w.alloc (.cells v.cells t), ρ.bind s.n w.heap.size, ?_, .inl rfl, ?_, hs.push (ORel_cells (CRel.mono (Rho.le_bind (hs.m_new (Nat.le_refl _))) _ _ h)), Fwd.push hs _⟩
  · simp [newVar, newRow]
  · simp only [VRel]; exact ⟨w.heap.size, by simp [Rho.bind], rfl⟩

theorem ok_alloc (hs : Sim P ρ s w) {t : TypeId} {z : AVal} (hz : zeroT P t = some z) :
    OpOk P ρ w ((do pure (Next.value (← Instr.alloc t true (.tuple #[]))) : Sem Next).run P w) (.ptr s.n 0) (s.push (.cells z.cells)) := by
  obtain ⟨v, h1, h2, h3⟩ := run_zero (ρ := ρ) hz
  have := ok_newVar (t := t) hs (h2.cells h3)
  simpa [Instr.alloc, h1] using this

theorem ok_box (hs : Sim P ρ s w) {t : TypeId} {x : Operand} {hint : Nat} {o : AOp} (hc : cOp P hint (.box t x) = some o) (hx : HOp ρ fr e x) {v : AVal} {s' : St} (H : Han) (hev : evalOp H o fr s = some (v, s')) :
    OpOk P ρ w ((do pure (Next.value (← Instr.box t (e x))) : Sem Next).run P w) v s' := by
  simp only [cOp, Option.pure_def, Option.bind_eq_bind, Option.bind_eq_some_iff, Option.some.injEq] at hc
  obtain ⟨y, hy, rfl⟩ := hc
  split at hev
  · simp only [evalOp] at hev
    split at hev
    · cases hev
    · rename_i ht
      cases hev
      have hcr : CRel ρ (y.eval fr).cells (e x).cells.toList := (hx y hy).cells fun l hl => by rw [hl] at ht; exact ht rfl
      have hle : ρ.le (ρ.fix w.heap.size 0 (e x).cells.toList) := Rho.le_fix fun off _ _ => hs.I_new (Nat.le_refl _) off
      have hI : IRel (ρ.fix w.heap.size 0 (e x).cells.toList) (y.eval fr).cells w.heap.size 0 := IRel.of_get fun i a ha => by
        obtain ⟨u, h1, h2, h3⟩ := hcr.get i a ha
        refine ⟨u, ?_, h2, VRel.mono hle _ _ h3⟩
        have hlt := (List.getElem?_eq_some_iff.1 h1).1
        simp only [Rho.fix]
        rw [if_pos ⟨by simp, by omega, by omega⟩]
        simpa using h1
      refine ⟨_, .pointer (some ⟨w.heap.size, 0, none⟩), w.alloc (.cells (e x).cells t), ρ.fix w.heap.size 0 (e x).cells.toList, ?_, .inl rfl, ?_, hs.fixNew (vs := (e x).cells) (e := t) (rest := []) (by simp) rfl, Fwd.fixNew hs _ rfl⟩
      · simp [Instr.box, newVar, newRow]
      · simp only [VRel]; exact ⟨w.heap.size, 0, rfl, hI⟩
  · simp only [evalOp] at hev
    split at hev
    · cases hev
    · rename_i ht
      cases hev
      have := ok_newVar (t := t) hs ((hx y hy).cells fun l hl => by rw [hl] at ht; exact ht rfl)
      simpa [Instr.box] using this

theorem places_eq (fs : List Field) : (fs.mapM fun f => (do pure (f.offset, ← sizeT P f.type) : Option (Nat × Nat))) = fs.mapM fun f => (P.info? f.type).map fun i => (f.offset, i.size) := by
  congr 1
  funext f
  cases h : P.info? f.type <;> simp [sizeT, h]

theorem cParts_mapM {place : Nat → Option (Nat × Nat)} {parts : Array (Nat × Operand)} {ps : List (Nat × Nat × AOpd)} (h : cParts place parts = some ps) :
    parts.toList.mapM (fun (x : Nat × Operand) => (do let (off, size) ← place x.1; pure (off, size, ← cOpd x.2) : Option (Nat × Nat × AOpd))) = some ps := h

theorem ok_build (hs : Sim P ρ s w) {t : TypeId} {parts : Array (Nat × Operand)} {hint : Nat} {o : AOp} (hc : cOp P hint (.build t parts) = some o) (ho : ∀ x ∈ parts.toList, HOp ρ fr e x.2)
    {v : AVal} {s' : St} (H : Han) (hev : evalOp H o fr s = some (v, s')) :
    OpOk P ρ w ((do pure (Next.value (← Instr.build t (parts.map fun (i, x) => (i, e x)))) : Sem Next).run P w) v s' := by
  simp only [cOp, Option.pure_def, Option.bind_eq_bind, Option.bind_eq_some_iff] at hc
  obtain ⟨z, hz, hc⟩ := hc
  have hz' := hz
  unfold zeroT at hz'
  simp only [Option.bind_eq_some_iff] at hz'
  obtain ⟨zv, ⟨it, hit, hzz⟩, hzv⟩ := hz'
  have hzr := (ofValue_rel (ρ := ρ) hzv).cells (ofValue_notup hzv)
  have key : ∀ {place : Nat → Option (Nat × Nat)} {ps : List (Nat × Nat × AOpd)} {cs : List AVal}, cParts place parts = some ps → fillA z.cells (ps.map fun (a, b, x) => (a, b, x.eval fr)) = some cs →
      ∃ o, Instr.fill place zv.cells (parts.map fun (i, x) => (i, e x)).toList = some o ∧ CRel ρ cs o.toList := by
    intro place ps cs h1 h2
    have := fill_rel (place := place) (e := e) (cParts_mapM h1) ho hzr h2
    simpa using this
  split at hc
  · rename_i fs hu
    simp only [Option.bind_eq_some_iff, Option.some.injEq] at hc
    obtain ⟨places, hp, ps, hps, rfl⟩ := hc
    simp only [evalOp, Option.map_eq_some_iff, Prod.mk.injEq] at hev
    obtain ⟨cs, hf, rfl, rfl⟩ := hev
    obtain ⟨o, h1, h2⟩ := key hps hf
    refine OpOk.same (v' := .agg o) hs ?_ (by simp only [VRel]; exact ⟨o, rfl, h2⟩)
    have hp' := places_eq (P := P) fs.toList
    simp only [Option.pure_def, Option.bind_eq_bind] at hp'
    rw [hp'] at hp
    have hb : P.built t (parts.map fun (i, x) => (i, e x)).toList = some o := by
      simp only [Program.built, hit, hu, hzz, hp, List.getElem?_toArray]; exact h1
    simp [run_build w t _ o hb]
  · rename_i n el hu
    simp only [Option.bind_eq_some_iff, Option.some.injEq] at hc
    obtain ⟨sz, hsz, ps, hps, rfl⟩ := hc
    simp only [evalOp, Option.map_eq_some_iff, Prod.mk.injEq] at hev
    obtain ⟨cs, hf, rfl, rfl⟩ := hev
    obtain ⟨o, h1, h2⟩ := key hps hf
    refine OpOk.same (v' := .agg o) hs ?_ (by simp only [VRel]; exact ⟨o, rfl, h2⟩)
    unfold sizeT at hsz
    simp only [Option.map_eq_some_iff] at hsz
    obtain ⟨ie, hie, rfl⟩ := hsz
    have hb : P.built t (parts.map fun (i, x) => (i, e x)).toList = some o := by
      simp only [Program.built, hit, hu, hzz, hie]; exact h1
    simp [run_build w t _ o hb]
  · cases hc

theorem repl_length {z : List AVal} : ∀ (n : Nat), (repl z n).length = n * z.length
  | 0 => by simp [repl]
  | n + 1 => by simp only [repl, List.length_append, repl_length n]; rw [Nat.succ_mul]; omega

def replV (z : List Value) : Nat → List Value
  | 0 => []
  | n + 1 => z ++ replV z n
theorem replV_get (z : List Value) (hz : 0 < z.length) : ∀ (n i : Nat), (replV z n)[i]? = if i < n * z.length then z[i % z.length]? else none
  | 0, i => by simp [replV]
  | n + 1, i => by
    simp only [replV, List.getElem?_append]
    rw [Nat.succ_mul]
    split
    · rename_i h; rw [if_pos (by omega), Nat.mod_eq_of_lt h]
    · rename_i h
      rw [replV_get z hz n]
      split
      · rename_i h2; rw [if_pos (by omega)]
        congr 1
        have : i = (i - z.length) + z.length := by omega
        conv => rhs; rw [this]
        rw [Nat.add_mod_right]
      · rename_i h2; rw [if_neg (by omega)]
theorem made_eq (z : Array Value) (n : Nat) : ((Array.range (n * z.size)).map (z[· % z.size]!)).toList = replV z.toList n := by
  rcases Nat.eq_zero_or_pos z.size with h0 | h0
  · have hz : z.toList = [] := List.length_eq_zero_iff.1 (by simpa using h0)
    have : ∀ n, replV ([] : List Value) n = [] := fun n => by induction n with | zero => rfl | succ n ih => simpa [replV] using ih
    rw [hz, this]; simp [h0]
  · apply List.ext_getElem?
    intro i
    rw [replV_get z.toList (by simpa using h0)]
    simp only [Array.toList_map, Array.toList_range, List.getElem?_map, Array.length_toList]
    by_cases hi : i < n * z.size
    · rw [List.getElem?_range hi, if_pos hi]
      have hm := Nat.mod_lt i h0
      simp [hm]
    · rw [if_neg hi, List.getElem?_eq_none (by simpa using hi)]; rfl
theorem CRel.repl {ρ : Rho} {z : List AVal} {zv : List Value} (h : CRel ρ z zv) : ∀ n, CRel ρ (repl z n) (replV zv n)
  | 0 => by simp [Ytlhfeiacigmliaa.repl, replV, CRel]
  | n + 1 => by simp only [Ytlhfeiacigmliaa.repl, replV]; exact h.append (CRel.repl h n)

/-- A new row that never changes. -/
theorem Sim.row (hs : Sim P ρ s w) {cs : List AVal} {vs : Array Value} (t : TypeId) (h : CRel ρ cs vs.toList) :
    Sim P (ρ.fix w.heap.size 0 vs.toList) s (w.alloc (.cells vs t)) ∧ Fwd ρ w (ρ.fix w.heap.size 0 vs.toList) (w.alloc (.cells vs t)) ∧ IRel (ρ.fix w.heap.size 0 vs.toList) cs w.heap.size 0 := by
  have hle : ρ.le (ρ.fix w.heap.size 0 vs.toList) := Rho.le_fix fun off _ _ => hs.I_new (Nat.le_refl _) off
  refine ⟨hs.fixNew (vs := vs) (e := t) (rest := []) (by simp) rfl, Fwd.fixNew hs _ rfl, IRel.of_get fun i a ha => ?_⟩
  obtain ⟨v, h1, h2, h3⟩ := h.get i a ha
  refine ⟨v, ?_, h2, VRel.mono hle _ _ h3⟩
  have hlt := (List.getElem?_eq_some_iff.1 h1).1
  simp only [Rho.fix]
  rw [if_pos ⟨by simp, by omega, by omega⟩]
  simpa using h1

theorem ok_buildSl (hs : Sim P ρ s w) {t : TypeId} {len : Nat} {parts : Array (Nat × Operand)} {hint : Nat} {o : AOp} (hc : cOp P hint (.buildSlice t len parts) = some o) (ho : ∀ x ∈ parts.toList, HOp ρ fr e x.2)
    {v : AVal} {s' : St} (H : Han) (hev : evalOp H o fr s = some (v, s')) :
    OpOk P ρ w ((do pure (Next.value (← Instr.buildSlice t len (parts.map fun (i, x) => (i, e x)))) : Sem Next).run P w) v s' := by
  simp only [cOp, Option.pure_def, Option.bind_eq_bind] at hc
  split at hc
  · rename_i el hu
    simp only [Option.bind_eq_some_iff] at hc
    obtain ⟨sz, hsz, z, hz, hc⟩ := hc
    split at hc
    · cases hc
    · rename_i hcond
      have hle : ¬ 2 ^ 24 < len * sz := fun h => hcond (.inl h)
      have hzl : z.cells.length = sz := Decidable.byContradiction fun h => hcond (.inr h)
      simp only [Option.bind_eq_some_iff, Option.some.injEq] at hc
      obtain ⟨ps, hps, rfl⟩ := hc
      obtain ⟨zv, hzv, hzr, hzt⟩ := run_zero (ρ := ρ) hz
      have hcz := hzr.cells hzt
      have hsize : zv.cells.size = sz := by have := hcz.length; simp at this; omega
      have hrun : ∀ out, Instr.fill (fun i => some (i * sz, sz)) ((Array.range (len * sz)).map (zv.cells[· % zv.cells.size]!)) (parts.map fun (i, x) => (i, e x)).toList = some out →
          (Instr.buildSlice t len (parts.map fun (i, x) => (i, e x))).run P w = .ok (.slice (some ⟨w.heap.size, 0, none⟩) len len) (w.alloc (.cells out el)) := by
        intro out hout
        have hr0 : ∀ f : Nat → Value, (Array.range 0).map f = #[] := fun f => Array.toList_inj.1 (by rw [Array.toList_map, Array.toList_range]; rfl)
        unfold Instr.buildSlice
        by_cases h0 : len * sz = 0
        · rw [h0, hr0] at hout
          simp only [Sem.run_bind, run_underlying hu, run_size hsz, Result.andThen_ok, h0, gt_iff_lt, Nat.not_lt_zero, if_false, if_true, Sem.run_pure, hr0]
          simp only [hout]
          simp [newRow]
        · simp only [Sem.run_bind, run_underlying hu, run_size hsz, Result.andThen_ok, gt_iff_lt, hle, h0, if_false, Sem.run_pure, hzv]
          simp only [hout]
          simp [newRow]
      have key : ∀ {cs : List AVal}, fillA (repl z.cells len) (ps.map fun (a, b, x) => (a, b, x.eval fr)) = some cs →
          ∃ out, Instr.fill (fun i => some (i * sz, sz)) ((Array.range (len * sz)).map (zv.cells[· % zv.cells.size]!)) (parts.map fun (i, x) => (i, e x)).toList = some out ∧ CRel ρ cs out.toList := by
        intro cs h2
        have hm := made_eq zv.cells len
        rw [hsize] at hm
        have := fill_rel (place := fun i => some (i * sz, sz)) (e := e) (cells := (Array.range (len * sz)).map (zv.cells[· % zv.cells.size]!)) (cParts_mapM hps) ho (by rw [hsize, hm]; exact hcz.repl len) h2
        simpa using this
      split at hev
      · simp only [evalOp, Option.map_eq_some_iff, Prod.mk.injEq] at hev
        obtain ⟨cs, hf, rfl, rfl⟩ := hev
        obtain ⟨out, h1, h2⟩ := key hf
        refine ⟨_, .slice (some ⟨w.heap.size, 0, none⟩) len len, w.alloc (.cells out el), ρ.bind s.n w.heap.size, by rw [Sem.run_bind, hrun out h1]; rfl, .inl rfl, ?_,
          hs.push (ORel_cells (CRel.mono (Rho.le_bind (hs.m_new (Nat.le_refl _))) _ _ h2)), Fwd.push hs _⟩
        simp only [VRel]
        exact ⟨w.heap.size, len, by simp [Rho.bind], rfl, Nat.le_refl _, fun c' h => by cases h; rfl⟩
      · simp only [evalOp, Option.map_eq_some_iff, Prod.mk.injEq] at hev
        obtain ⟨cs, hf, rfl, rfl⟩ := hev
        obtain ⟨out, h1, h2⟩ := key hf
        obtain ⟨h3, h4, h5⟩ := hs.row el h2
        refine ⟨_, .slice (some ⟨w.heap.size, 0, none⟩) len len, _, _, by rw [Sem.run_bind, hrun out h1]; rfl, .inl rfl, ?_, h3, h4⟩
        simp only [VRel]
        exact .inr ⟨w.heap.size, 0, len, rfl, Nat.le_refl _, h5, rfl⟩
  · cases hc

theorem look1_rel (hs : Sim P ρ s w) {a v : AVal} {va : Value} (ha : VRel ρ a va) (h : look1 s a = some v) : ∃ ad u, va = .pointer (some ad) ∧ w.cell? ad = some u ∧ u.oneCell' = true ∧ VRel ρ v u := by
  unfold look1 at h
  split at h
  · rename_i c cs
    cases h
    simp only [VRel, IRel] at ha
    obtain ⟨R, off, rfl, u, h1, h2, h3, _⟩ := ha
    exact ⟨_, u, rfl, hs.imm _ _ _ h1, h2, h3⟩
  · rename_i b off
    simp only [VRel] at ha
    obtain ⟨R, hm, rfl⟩ := ha
    split at h
    · rename_i cs hg
      obtain ⟨o', h1, vs, el, rest, rfl, front, h2, h3⟩ := hs.obj b R _ hm hg
      obtain ⟨u, h4, h5, h6⟩ := h3.get off v h
      refine ⟨_, u, rfl, ?_, h5, h6⟩
      simp only [World.cell?, h1, Option.isSome_none, Bool.false_eq_true, if_false]
      rw [← Array.getElem?_toList, h2, List.getElem?_append_left (List.getElem?_eq_some_iff.1 h4).1]
      exact h4
    · cases h
  · cases h

theorem addr_add (R off i : Nat) : (⟨R, off, none⟩ : Addr).add i = ⟨R, off + i, none⟩ := by
  unfold Addr.add; split <;> simp_all

theorem lookN_rel (hs : Sim P ρ s w) {a : AVal} {cs : List AVal} {n : Nat} {va : Value} (ha : VRel ρ a va) (h : lookN s a n = some cs) :
    ∃ R off vs, va = .pointer (some ⟨R, off, none⟩) ∧ CRel ρ cs vs ∧ vs.length = n ∧ ∀ (j : Nat) (u : Value), vs[j]? = some u → w.cell? ((⟨R, off, none⟩ : Addr).add j) = some u := by
  unfold lookN at h
  split at h
  · rename_i l
    split at h
    · rename_i hn
      cases h
      simp only [VRel] at ha
      obtain ⟨R, off, rfl, hi⟩ := ha
      have hlen : ∀ i, i < n → ∃ a, l[i]? = some a := fun i hi' => ⟨_, List.getElem?_eq_getElem (by omega)⟩
      let vs := (List.range n).map fun i => (ρ.I R (off + i)).getD undef
      have hvs : ∀ i, i < n → ∃ a u, l[i]? = some a ∧ ρ.I R (off + i) = some u ∧ vs[i]? = some u ∧ u.oneCell' = true ∧ VRel ρ a u := by
        intro i hi'
        obtain ⟨a, ha⟩ := hlen i hi'
        obtain ⟨u, h1, h2, h3⟩ := hi.get i a ha
        exact ⟨a, u, ha, h1, by simp [vs, hi', h1], h2, h3⟩
      refine ⟨R, off, vs, rfl, CRel.of_get (by simp [vs]; omega) fun i a u h1 h2 => ?_, by simp [vs], fun j u hj => ?_⟩
      · have hlt : i < n := by have := (List.getElem?_eq_some_iff.1 h2).1; simpa [vs] using this
        obtain ⟨a', u', h3, h4, h5, h6, h7⟩ := hvs i hlt
        rw [h5] at h2; cases h2
        rw [List.getElem?_take, if_pos hlt, h3] at h1; cases h1
        exact ⟨h6, h7⟩
      · have hlt : j < n := by have := (List.getElem?_eq_some_iff.1 hj).1; simpa [vs] using this
        obtain ⟨a', u', h3, h4, h5, h6, h7⟩ := hvs j hlt
        rw [h5] at hj; cases hj
        rw [addr_add]; exact hs.imm _ _ _ h4
    · cases h
  · rename_i b off
    simp only [VRel] at ha
    obtain ⟨R, hm, rfl⟩ := ha
    split at h
    · rename_i l hg
      split at h
      · rename_i hn
        cases h
        obtain ⟨o', h1, vs, el, rest, rfl, front, h2, h3⟩ := hs.obj b R _ hm hg
        have hl := h3.length
        refine ⟨R, off, (front.drop off).take n, rfl, (h3.drop off).take n, by simp; omega, fun j u hj => ?_⟩
        rw [List.getElem?_take] at hj
        split at hj
        · rename_i hjn
          rw [List.getElem?_drop] at hj
          simp only [addr_add, World.cell?, h1, Option.isSome_none, Bool.false_eq_true, if_false]
          rw [← Array.getElem?_toList, h2, List.getElem?_append_left (List.getElem?_eq_some_iff.1 hj).1]
          exact hj
        · cases hj
      · cases h
    · cases h
  · cases h

theorem ok_load (hs : Sim P ρ s w) {t : TypeId} {a : Operand} {hint : Nat} {o : AOp} (hc : cOp P hint (.load t a) = some o) (ha : HOp ρ fr e a)
    {v : AVal} {s' : St} (H : Han) (hev : evalOp H o fr s = some (v, s')) :
    OpOk P ρ w ((do pure (Next.value (← Instr.loadAt t (e a))) : Sem Next).run P w) v s' := by
  simp only [cOp, Option.pure_def, Option.bind_eq_bind, Option.bind_eq_some_iff] at hc
  obtain ⟨g, hg, hc⟩ := hc
  cases g
  · simp only [Bool.false_eq_true, if_false, Option.bind_eq_some_iff, Option.some.injEq] at hc
    obtain ⟨y, hy, rfl⟩ := hc
    simp only [evalOp, Option.map_eq_some_iff, Prod.mk.injEq] at hev
    obtain ⟨u, hl, rfl, rfl⟩ := hev
    obtain ⟨ad, val, h1, h2, h3, h4⟩ := look1_rel hs (ha y hy) hl
    refine OpOk.same (v' := val) hs ?_ h4
    simp [Instr.loadAt, Instr.sureAddr, h1, loadVar, run_isAgg hg, h2]
  · simp only [if_true, Option.bind_eq_some_iff, Option.some.injEq] at hc
    obtain ⟨n, hn, y, hy, rfl⟩ := hc
    simp only [evalOp, Option.map_eq_some_iff, Prod.mk.injEq] at hev
    obtain ⟨cs, hl, rfl, rfl⟩ := hev
    obtain ⟨R, off, vs, h1, h2, h3, h4⟩ := lookN_rel hs (ha y hy) hl
    refine OpOk.same (v' := .agg vs.toArray) hs ?_ (by simp only [VRel]; exact ⟨_, rfl, by simpa using h2⟩)
    have hr := run_loadCells_list (P := P) w (⟨R, off, none⟩ : Addr) vs h4
    rw [h3] at hr
    simp [Instr.loadAt, Instr.sureAddr, h1, loadVar, run_isAgg hg, run_size hn, hr]

theorem setRow_put {w : World} {R : Nat} {vs cs : Array Value} {t : TypeId} {fz : Nat × Nat} (h : w.heap[R]? = some (.cells vs t fz)) : (w.setRow R cs).heap = w.heap.setIfInBounds R (.cells cs t fz) := by
  have hlt : R < w.heap.size := (Array.getElem?_eq_some_iff.1 h).1
  have hv : w.heap[R] = .cells vs t fz := (Array.getElem?_eq_some_iff.1 h).2
  apply Array.ext_getElem?
  intro i
  unfold World.setRow
  simp only [Array.getElem?_modify, Array.getElem?_setIfInBounds]
  by_cases hi : R = i
  · subst hi; simp [hlt, hv]
  · simp [hi]

theorem ok_store (hs : Sim P ρ s w) {t : TypeId} {a x : Operand} {hint : Nat} {o : AOp} (hc : cOp P hint (.store t a x) = some o) (ha : HOp ρ fr e a) (hx : HOp ρ fr e x)
    {v : AVal} {s' : St} (H : Han) (hev : evalOp H o fr s = some (v, s')) :
    OpOk P ρ w ((do Instr.storeAt t (e a) (e x); pure .skip : Sem Next).run P w) v s' := by
  simp only [cOp, Option.pure_def, Option.bind_eq_bind, Option.bind_eq_some_iff, Option.some.injEq] at hc
  obtain ⟨n, hn, y, hy, z, hz, rfl⟩ := hc
  simp only [evalOp] at hev
  split at hev
  · rename_i hcond
    obtain ⟨hnt, hlen⟩ := hcond
    simp only [Option.map_eq_some_iff, Prod.mk.injEq] at hev
    obtain ⟨s1, hst, rfl, rfl⟩ := hev
    unfold storeN at hst
    split at hst
    · rename_i b off hb
      split at hst
      · rename_i cs hg
        split at hst
        · rename_i hfit
          cases hst
          have h1 := ha y hy
          rw [hb] at h1
          simp only [VRel] at h1
          obtain ⟨R, hm, hR⟩ := h1
          have hcell : CRel ρ (z.eval fr).cells (e x).cells.toList := (hx z hz).cells fun l hl => by rw [hl] at hnt; cases hnt
          obtain ⟨o', ho, vs, el, rest, rfl, front, h2, h3⟩ := hs.obj b R _ hm hg
          have hl1 := hcell.length
          have hl2 := h3.length
          have hvl : vs.size = front.length + rest.length := by rw [← Array.length_toList, h2]; simp
          have hfit' : off + (e x).cells.toList.length ≤ vs.size := by omega
          have hrun := run_storeCells_at P R off el (e x).cells.toList 0 vs w ho (by omega) hcell.one
          simp only [Nat.add_zero] at hrun
          have hsz : (e x).cells.size = n := by simp at hl1; omega
          refine ⟨.skip, undef, w.setRow R (vs.toList.take off ++ (e x).cells.toList ++ vs.toList.drop (off + (e x).cells.toList.length)).toArray, ρ, ?_, .inr ⟨rfl, rfl⟩, by simp [undefA, VRel, VRels, undef], hs.put (o := .cells (vs.toList.take off ++ (e x).cells.toList ++ vs.toList.drop (off + (e x).cells.toList.length)).toArray el (0, 0)) hm hg ?_ (setRow_put ho), Fwd.put hm (setRow_put ho)⟩
          · simp only [Instr.storeAt, Instr.sureAddr, hR, storeVar]
            simp only [Sem.run_bind, run_size hn, Sem.run_pure, Result.andThen_ok]
            rw [if_neg (by rw [hsz]; simp)]
            rw [hrun]; rfl
          · refine ⟨_, el, rest, rfl, splice front off (e x).cells.toList, ?_, h3.splice off hcell⟩
            rw [splice_eq _ _ _ (by omega)]
            simp only [h2]
            have e1 : List.take off (front ++ rest) = List.take off front := by rw [List.take_append_of_le_length (by omega)]
            have e2 : List.drop (off + (e x).cells.toList.length) (front ++ rest) = List.drop (off + (e x).cells.toList.length) front ++ rest := by rw [List.drop_append_of_le_length (by omega)]
            rw [e1, e2]; simp
        · cases hst
      · cases hst
    · cases hst
  · cases hev
end
end Go.Proofs.Ytlhfeiacigmliaa

/- More operations: tests, numbers, slices, fields, indexes. -/
namespace Go.Proofs.Ytlhfeiacigmliaa
open Go

section
variable {P : Program} {ρ : Rho} {s : St} {w : World} {fr : List AVal} {e : Operand → Value}

theorem ok_nilCheck (hs : Sim P ρ s w) {x : Operand} {y : AOpd} (hx : HOp ρ fr e x) (hc : cOpd x = some y) {v : AVal} {s' : St} (H : Han) (hev : evalOp H (.nilCheck y) fr s = some (v, s'))
    (o : Oper) (ho : o.op = .nilCheck x) : OpOk P ρ w ((execOp e o).run P w) v s' := by
  have h := hx y hc
  simp only [evalOp] at hev
  have key : ∀ u, y.eval fr = u → (∀ l, u ≠ .tup l) → (∀ name, u ≠ .nilp ∧ u ≠ .nilf ∧ u ≠ .nili ∧ ∀ a b, u ≠ .fn (.method name) a b) → OpOk P ρ w ((execOp e o).run P w) u s := by
    intro u hu htup hn
    rw [hu] at h
    refine OpOk.same (v' := e x) hs ?_ h
    obtain ⟨h1, h2, h3, _⟩ := hn ""
    cases u with
    | nilp => exact absurd rfl h1
    | nilf => exact absurd rfl h2
    | nili => exact absurd rfl h3
    | bool b => simp only [VRel] at h; simp [execOp, ho, h]
    | int k n => simp only [VRel] at h; simp [execOp, ho, h]
    | str k => simp only [VRel] at h; simp [execOp, ho, h]
    | ptr b off => simp only [VRel] at h; obtain ⟨R, _, h⟩ := h; simp [execOp, ho, h]
    | vref cs => simp only [VRel] at h; obtain ⟨R, off, h, _⟩ := h; simp [execOp, ho, h]
    | sl0 => simp only [VRel] at h; simp [execOp, ho, h]
    | vsl cs len perm => simp only [VRel] at h; rcases h with ⟨_, _, _, h⟩ | ⟨R, off, cap, h, _⟩ <;> simp [execOp, ho, h]
    | hsl b off len cap => simp only [VRel] at h; obtain ⟨R, c, _, h, _⟩ := h; simp [execOp, ho, h]
    | map b => simp only [VRel] at h; obtain ⟨R, _, h⟩ := h; simp [execOp, ho, h]
    | nilm => simp only [VRel] at h; simp [execOp, ho, h]
    | fn f a b =>
      simp only [VRel] at h
      obtain ⟨fs, cs, h, _⟩ := h
      cases f with
      | method name => exact absurd rfl ((hn name).2.2.2 a b)
      | func k => simp [execOp, ho, h]
      | methodOf t n => simp [execOp, ho, h]
      | via t n f p => simp [execOp, ho, h]
      | yield l => simp [execOp, ho, h]
    | yld b => simp only [VRel] at h; obtain ⟨R, _, h⟩ := h; simp [execOp, ho, h]
    | iface t x => simp only [VRel] at h; obtain ⟨y, h, _⟩ := h; simp [execOp, ho, h]
    | agg cs => simp only [VRel] at h; obtain ⟨vs, h, _⟩ := h; simp [execOp, ho, h]
    | tup cs => exact absurd rfl (htup cs)
  split at hev
  · cases hev
  · cases hev
  · cases hev
  · cases hev
  · cases hev
  · rename_i h1 h2 h3 h5 h4
    cases hev
    exact key _ rfl (fun l hl => h5 l hl) fun name => ⟨h1, h2, h3, fun a b hab => h4 name a b hab⟩

theorem wr_eq (k : IntKind) (n : Int) : wr k n = k.wrap n := by
  unfold wr
  split
  · rename_i h
    cases k <;> simp only [kLo, kHi] at h <;> simp [IntKind.wrap, IntKind.bits, IntKind.signed] <;> omega
  · rfl

theorem run_bin (op : BinOp) (k k' : IntKind) (a b : Int) (r : AVal) (t : TypeId) (h : binA op (.int k a) (.int k' b) = some r) : ∃ u, (binOp op t (.int k a) (.int k' b)).run P w = .ok u w ∧ VRel ρ r u := by
  simp only [binA] at h
  split at h
  · rename_i hk
    cases op <;> simp only [binInt] at h <;>
      first
      | (simp at hk; subst hk; cases h; exact ⟨_, by simp [binOp, Op.intArith, Op.intCmp]; rfl, by simp [VRel, wr_eq]⟩)
      | (simp at hk; subst hk; split at h
         · cases h
         · rename_i hb; cases h; exact ⟨_, by simp [binOp, Op.intDiv, hb]; rfl, by simp [VRel, wr_eq]⟩)
      | (split at h
         · cases h
         · rename_i hb; cases h; exact ⟨_, by simp [binOp, Op.shift, hb]; rfl, by simp [VRel, wr_eq]⟩)
      | (simp at hk; subst hk; simp only [bitsA] at h; cases h; exact ⟨_, by simp [binOp, Op.intBits]; rfl, by simp [VRel]⟩)
  · cases h

theorem ok_bin (hs : Sim P ρ s w) {op : BinOp} {t yt : TypeId} {x y : Operand} {x' y' : AOpd} (hx : HOp ρ fr e x) (hy : HOp ρ fr e y) (hcx : cOpd x = some x') (hcy : cOpd y = some y')
    {v : AVal} {s' : St} (H : Han) (hev : evalOp H (.bin op x' y') fr s = some (v, s')) (o : Oper) (ho : o.op = .binOp op t x y yt) : OpOk P ρ w ((execOp e o).run P w) v s' := by
  simp only [evalOp, Option.map_eq_some_iff, Prod.mk.injEq] at hev
  obtain ⟨u, hb, rfl, rfl⟩ := hev
  have h1 := hx x' hcx
  have h2 := hy y' hcy
  have hb' := hb
  unfold binA at hb
  split at hb
  · rename_i k a k' b h3 h4
    rw [h3] at h1; rw [h4] at h2
    simp only [VRel] at h1 h2
    rw [h3, h4] at hb'
    obtain ⟨r, h5, h6⟩ := run_bin (P := P) (ρ := ρ) (w := w) op k k' a b u t hb'
    refine OpOk.same (v' := r) hs ?_ h6
    have hg : (eqGuard op t x y (.int k a) (.int k' b)).run P w = .ok () w := by unfold eqGuard; split <;> simp
    simp [execOp, ho, h1, h2, hg, h5]
  · rename_i a b h3 h4
    rw [h3] at h1; rw [h4] at h2
    simp only [VRel] at h1 h2
    have hg : (eqGuard op t x y (.string a) (.string b)).run P w = .ok () w := by unfold eqGuard; split <;> simp
    split at hb
    · cases hb
      exact OpOk.same (v' := .bool (a == b)) hs (by rw [beq_toListBytes]; simp [execOp, ho, h1, h2, hg, binOp, Op.stringOp]) (by simp [VRel])
    · cases hb
      exact OpOk.same (v' := .bool (a != b)) hs (by rw [show (a != b) = !(a == b) from rfl, beq_toListBytes]; simp [execOp, ho, h1, h2, hg, binOp, Op.stringOp]) (by simp [VRel])
    · cases hb
  · cases hb

theorem ok_un (hs : Sim P ρ s w) {op : UnOp} {t : TypeId} {x : Operand} {y : AOpd} (hx : HOp ρ fr e x) (hc : cOpd x = some y) {v : AVal} {s' : St} (H : Han) (hev : evalOp H (.un op y) fr s = some (v, s'))
    (o : Oper) (ho : o.op = .unOp op t x) : OpOk P ρ w ((execOp e o).run P w) v s' := by
  have h := hx y hc
  simp only [evalOp, Option.map_eq_some_iff, Prod.mk.injEq] at hev
  obtain ⟨u, hev, rfl, rfl⟩ := hev
  unfold unA at hev
  split at hev
  · rename_i b hb
    cases hev
    rw [hb] at h; simp only [VRel] at h
    exact OpOk.same (v' := .bool !b) hs (by simp [execOp, ho, h, Op.unary]) (by simp [VRel])
  · rename_i k n hb
    cases hev
    rw [hb] at h; simp only [VRel] at h
    exact OpOk.same (v' := .int k (k.wrap (0 - n))) hs (by simp [execOp, ho, h, Op.unary, Op.intArith]) (by simp [VRel, wr_eq])
  · cases hev

theorem ok_conv (hs : Sim P ρ s w) {a b : TypeId} {x : Operand} {hint : Nat} {ao : AOp} (hx : HOp ρ fr e x) (hc : cOp P hint (.convert a b x) = some ao) {v : AVal} {s' : St} (H : Han) (hev : evalOp H ao fr s = some (v, s'))
    (o : Oper) (ho : o.op = .convert a b x) : OpOk P ρ w ((execOp e o).run P w) v s' := by
  simp only [cOp, Option.pure_def, Option.bind_eq_bind] at hc
  split at hc
  · rename_i k0 k h1 h2
    simp only [Option.bind_eq_some_iff, Option.some.injEq] at hc
    obtain ⟨y, hy, rfl⟩ := hc
    have h := hx y hy
    simp only [evalOp] at hev
    split at hev
    · rename_i k' n hb
      cases hev
      rw [hb] at h; simp only [VRel] at h
      exact OpOk.same (v' := .int k (k.wrap n)) hs (by simp [execOp, ho, h, convert, run_underlying h1, run_underlying h2, Conv.intToInt]) (by simp [VRel, wr_eq])
    · cases hev
  · cases hc

theorem ok_eqb (hs : Sim P ρ s w) {op : BinOp} {t yt : TypeId} {x y : Operand} {x' y' : AOpd} (hx : HOp ρ fr e x) (hy : HOp ρ fr e y) (hcx : cOpd x = some x') (hcy : cOpd y = some y')
    (hop : op = .eql ∨ op = .neq) (ht : P.underlying t = some .bool)
    {v : AVal} {s' : St} (H : Han) (hev : evalOp H (.eqb (op = .neq) x' y') fr s = some (v, s')) (o : Oper) (ho : o.op = .binOp op t x y yt) : OpOk P ρ w ((execOp e o).run P w) v s' := by
  have h1 := hx x' hcx
  have h2 := hy y' hcy
  simp only [evalOp] at hev
  split at hev
  · rename_i a b h3 h4
    cases hev
    rw [h3] at h1; rw [h4] at h2
    simp only [VRel] at h1 h2
    have he : (Op.equal t (.bool a) (.bool b)).run P w = .ok (a == b) w := run_equalIn_bool' w 9999 t a b ht
    have hb1 : binOp .eql t (.bool a) (.bool b) = (do pure (.bool (← Op.equal t (.bool a) (.bool b)))) := rfl
    have hb2 : binOp .neq t (.bool a) (.bool b) = (do pure (.bool (!(← Op.equal t (.bool a) (.bool b))))) := rfl
    rcases hop with rfl | rfl
    · exact OpOk.same (v' := .bool (a == b)) hs (by simp [execOp, ho, h1, h2, eqGuard, hb1, he]) (by simp [VRel])
    · exact OpOk.same (v' := .bool !(a == b)) hs (by simp [execOp, ho, h1, h2, eqGuard, hb2, he]) (by simp [VRel])
  · cases hev

theorem vslPos {A B : Prop} {len : Nat} {v : Value} {Q : Nat → Nat → Nat → Prop} (h0 : ¬ len = 0) (h : (A ∧ len = 0 ∧ B ∧ v = .slice none 0 0) ∨ ∃ R off cap, v = .slice (some ⟨R, off, none⟩) len cap ∧ Q R off cap) :
    ∃ R off cap, v = .slice (some ⟨R, off, none⟩) len cap := by
  rcases h with ⟨_, h, _⟩ | ⟨R, off, cap, h, _⟩
  · exact absurd h h0
  · exact ⟨R, off, cap, h⟩

set_option maxHeartbeats 1000000 in
theorem eqIn_nil {t : TypeId} {kind : Nat} (hk : nilT P t = some kind) {x y : AVal} {vx vy : Value} (hx : VRel ρ x vx) (hy : VRel ρ y vy) {b : Bool} (h : eqNilA kind x y = some b) (d : Nat) :
    (Op.equalIn (d + 1) t vx vy).run P w = .ok b w := by
  unfold nilT at hk
  split at hk <;> cases hk <;> rename_i hu <;> simp only [eqNilA] at h <;> split at h <;> (try split at h) <;> cases h <;> simp only [VRel] at hx hy
  all_goals
    first
    | (subst hx; subst hy; simp [Op.equalIn, run_underlying hu]; done)
    | (subst hx; obtain ⟨R, o, c, rfl⟩ := vslPos (by assumption) hy; simp [Op.equalIn, run_underlying hu]; done)
    | (subst hy; obtain ⟨R, o, c, rfl⟩ := vslPos (by assumption) hx; simp [Op.equalIn, run_underlying hu]; done)
    | (subst hx; obtain ⟨R, _, rfl⟩ := hy; simp [Op.equalIn, run_underlying hu]; done)
    | (subst hy; obtain ⟨R, _, rfl⟩ := hx; simp [Op.equalIn, run_underlying hu]; done)
    | (subst hx; obtain ⟨R, o, rfl, _⟩ := hy; simp [Op.equalIn, run_underlying hu]; done)
    | (subst hy; obtain ⟨R, o, rfl, _⟩ := hx; simp [Op.equalIn, run_underlying hu]; done)
    | (subst hx; obtain ⟨R, o, c, rfl, _⟩ := hy; simp [Op.equalIn, run_underlying hu]; done)
    | (subst hy; obtain ⟨R, o, c, rfl, _⟩ := hx; simp [Op.equalIn, run_underlying hu]; done)
    | (subst hx; obtain ⟨R, o, _, rfl, _⟩ := hy; simp [Op.equalIn, run_underlying hu]; done)
    | (subst hy; obtain ⟨R, o, _, rfl, _⟩ := hx; simp [Op.equalIn, run_underlying hu]; done)

theorem nil_shape {kind : Nat} {x y : AVal} {vx vy : Value} (hx : VRel ρ x vx) (hy : VRel ρ y vy) {b : Bool} (h : eqNilA kind x y = some b) (op : BinOp) (t : TypeId) (ox oy : Operand) :
    (eqGuard op t ox oy vx vy).run P w = .ok () w ∧ (binOp .eql t vx vy = do pure (.bool (← Op.equal t vx vy))) ∧ (binOp .neq t vx vy = do pure (.bool (!(← Op.equal t vx vy)))) := by
  unfold eqNilA at h
  split at h <;> (try cases h) <;> split at h <;> (try split at h) <;> cases h <;> simp only [VRel] at hx hy
  all_goals
    first
    | (subst hx; subst hy; exact ⟨by unfold eqGuard; split <;> simp, rfl, rfl⟩)
    | (subst hx; obtain ⟨R, o, c, rfl⟩ := vslPos (by assumption) hy; exact ⟨by unfold eqGuard; split <;> simp, rfl, rfl⟩)
    | (subst hy; obtain ⟨R, o, c, rfl⟩ := vslPos (by assumption) hx; exact ⟨by unfold eqGuard; split <;> simp, rfl, rfl⟩)
    | (subst hx; obtain ⟨R, _, rfl⟩ := hy; exact ⟨by unfold eqGuard; split <;> simp, rfl, rfl⟩)
    | (subst hy; obtain ⟨R, _, rfl⟩ := hx; exact ⟨by unfold eqGuard; split <;> simp, rfl, rfl⟩)
    | (subst hx; obtain ⟨R, o, rfl, _⟩ := hy; exact ⟨by unfold eqGuard; split <;> simp, rfl, rfl⟩)
    | (subst hy; obtain ⟨R, o, rfl, _⟩ := hx; exact ⟨by unfold eqGuard; split <;> simp, rfl, rfl⟩)
    | (subst hx; obtain ⟨R, o, c, rfl, _⟩ := hy; exact ⟨by unfold eqGuard; split <;> simp, rfl, rfl⟩)
    | (subst hy; obtain ⟨R, o, c, rfl, _⟩ := hx; exact ⟨by unfold eqGuard; split <;> simp, rfl, rfl⟩)
    | (subst hx; obtain ⟨R, o, _, rfl, _⟩ := hy; exact ⟨by unfold eqGuard; split <;> simp, rfl, rfl⟩)
    | (subst hy; obtain ⟨R, o, _, rfl, _⟩ := hx; exact ⟨by unfold eqGuard; split <;> simp, rfl, rfl⟩)

theorem ok_eqnil (hs : Sim P ρ s w) {op : BinOp} {t yt : TypeId} {x y : Operand} {x' y' : AOpd} (hx : HOp ρ fr e x) (hy : HOp ρ fr e y) (hcx : cOpd x = some x') (hcy : cOpd y = some y')
    (hop : op = .eql ∨ op = .neq) {kind : Nat} (ht : nilT P t = some kind)
    {v : AVal} {s' : St} (H : Han) (hev : evalOp H (.eqnil kind (op = .neq) x' y') fr s = some (v, s')) (o : Oper) (ho : o.op = .binOp op t x y yt) : OpOk P ρ w ((execOp e o).run P w) v s' := by
  have h1 := hx x' hcx
  have h2 := hy y' hcy
  simp only [evalOp, Option.map_eq_some_iff, Prod.mk.injEq] at hev
  obtain ⟨b, hb, rfl, rfl⟩ := hev
  have he : (Op.equal t (e x) (e y)).run P w = .ok b w := eqIn_nil ht h1 h2 hb 9999
  obtain ⟨h3, h4, h5⟩ := nil_shape (P := P) (w := w) h1 h2 hb op t x y
  rcases hop with rfl | rfl
  · exact OpOk.same (v' := .bool b) hs (by simp [execOp, ho, h3, h4, he]) (by simp [VRel])
  · exact OpOk.same (v' := .bool !b) hs (by simp [execOp, ho, h3, h5, he]) (by simp [VRel])
end
end Go.Proofs.Ytlhfeiacigmliaa

/- More operations: functions, slices, fields, indexes, appends. -/
namespace Go.Proofs.Ytlhfeiacigmliaa
open Go

section
variable {P : Program} {ρ : Rho} {s : St} {w : World} {fr : List AVal} {e : Operand → Value}

theorem ok_mkFn (hs : Sim P ρ s w) {f : Fn} {first cap : Array Operand} {fi ca : List AOpd} (h1 : ∀ x ∈ first.toList, HOp ρ fr e x) (h2 : ∀ x ∈ cap.toList, HOp ρ fr e x)
    (hc1 : cOpds first = some fi) (hc2 : cOpds cap = some ca) {v : AVal} {s' : St} (H : Han) (hev : evalOp H (.mkFn f fi ca) fr s = some (v, s'))
    (o : Oper) (ho : o.op = .makeFunc f first cap) : OpOk P ρ w ((execOp e o).run P w) v s' := by
  simp only [evalOp] at hev
  split at hev
  · rename_i f
    cases hev
    have r1 := cOpds_rel (ρ := ρ) (fr := fr) (e := e) hc1 h1
    have r2 := cOpds_rel (ρ := ρ) (fr := fr) (e := e) hc2 h2
    exact OpOk.same (v' := .func (.func f) (first.map e) (cap.map e)) hs (by simp [execOp, ho, Instr.makeFunc]) (by simp only [VRel]; exact ⟨_, _, rfl, by simpa using r1, by simpa using r2⟩)
  · cases hev

theorem ok_mkMap (hs : Sim P ρ s w) {t : TypeId} {kagg : Bool} {v : AVal} {s' : St} (H : Han) (hev : evalOp H (.mkMap kagg) fr s = some (v, s'))
    (o : Oper) (ho : o.op = .makeMap t none) : OpOk P ρ w ((execOp e o).run P w) v s' := by
  simp only [evalOp, Option.some.injEq, Prod.mk.injEq] at hev
  obtain ⟨rfl, rfl⟩ := hev
  refine ⟨_, .map (some w.heap.size), w.alloc (.map #[] 0), ρ.bind s.n w.heap.size, by simp [execOp, ho, Instr.makeMap], .inl rfl, ?_, hs.push ⟨#[], 0, rfl, by simp [EntRels]⟩, Fwd.push hs _⟩
  simp only [VRel]; exact ⟨w.heap.size, by simp [Rho.bind], rfl⟩

theorem ok_mkSlice (hs : Sim P ρ s w) {t : TypeId} {l c : Operand} {hint : Nat} {ao : AOp} (hl : HOp ρ fr e l) (hcp : HOp ρ fr e c) (hc : cOp P hint (.makeSlice t l c) = some ao)
    {v : AVal} {s' : St} (H : Han) (hev : evalOp H ao fr s = some (v, s')) (o : Oper) (ho : o.op = .makeSlice t l c) : OpOk P ρ w ((execOp e o).run P w) v s' := by
  simp only [cOp, Option.pure_def, Option.bind_eq_bind] at hc
  split at hc
  · rename_i el hu
    simp only [Option.bind_eq_some_iff] at hc
    obtain ⟨i, hi, z, hz, hc⟩ := hc
    split at hc
    · cases hc
    · rename_i hsz
      simp only [Option.bind_eq_some_iff, Option.some.injEq] at hc
      obtain ⟨l', hl', c', hc', rfl⟩ := hc
      simp only [evalOp] at hev
      split at hev
      · rename_i li ci h1 h2
        split at hev
        · rename_i hcond
          obtain ⟨c1, c2, c3, c4⟩ := hcond
          cases hev
          have r1 := hl l' hl'
          have r2 := hcp c' hc'
          rw [h1] at r1; rw [h2] at r2
          simp only [VRel] at r1 r2
          have hz' := hz
          unfold zeroT at hz'
          simp only [Option.bind_eq_some_iff] at hz'
          obtain ⟨zv, ⟨i', hi', hzz⟩, hzv⟩ := hz'
          rw [hi] at hi'; cases hi'
          have hcz := (ofValue_rel (ρ := ρ) hzv).cells (ofValue_notup hzv)
          have hsize : zv.cells.size = i.size := by have := hcz.length; simp at this; simp at hsz; omega
          have hrun := run_make (P := P) w t el i zv hu hi hzz .i64 .i64 li ci c1 c2 (by omega) (by omega)
          have hm : (madeCells zv.cells (ci.toNat * i.size)).toList = replV zv.cells.toList ci.toNat := by
            have := made_eq zv.cells ci.toNat; rw [hsize] at this; unfold madeCells; rw [← hsize] at this ⊢; exact this
          refine ⟨_, .slice (some ⟨w.heap.size, 0, none⟩) li.toNat ci.toNat, w.alloc (.cells (madeCells zv.cells (ci.toNat * i.size)) el), ρ.bind s.n w.heap.size, ?_, .inl rfl, ?_, hs.push (ORel_cells ?_), Fwd.push hs _⟩
          · simp only [execOp, ho, r1, r2, Sem.run_bind, hrun]; rfl
          · simp only [VRel]; exact ⟨w.heap.size, ci.toNat, by simp [Rho.bind], rfl, by omega, fun c' h => by cases h; rfl⟩
          · rw [hm]; exact (CRel.mono (Rho.le_bind (hs.m_new (Nat.le_refl _))) _ _ hcz).repl _
        · cases hev
      · cases hev
  · cases hc

theorem run_bound {o : Operand} {o' : AOpd} (hc : cOpd o = some o') (ho : HOp ρ fr e o) {d most n : Nat} (h : boundA fr (some o') d most = some n) {y : Nat} (hy : most ≤ y) (code : BoundsCode) :
    (Instr.sliceBound (e o) y code).run P w = .ok n w ∧ n ≤ most := by
  have hr := ho o' hc
  simp only [boundA] at h
  split at h
  · rename_i k i hi
    rw [hi] at hr; simp only [VRel] at hr
    split at h
    · rename_i hb
      cases h
      refine ⟨?_, by omega⟩
      simp only [Instr.sliceBound, hr, asIntOf, Sem.run_bind, Sem.run_pure, Result.andThen_ok, Sem.run_ite]
      rw [if_pos ⟨hb.1, by omega⟩]
    · cases h
  · cases h

/-- The bounds of a slice expression: abstract `cap'` is at most the real one where no third index is given. -/
theorem run_bounds {lo hi mx : Option Operand} {lo' hi' mx' : Option AOpd} (h1 : cOpt lo = some lo') (h2 : cOpt hi = some hi') (h3 : cOpt mx = some mx') (hn : (mx.isSome && hi.isNone) = false)
    (hlo : ∀ o, lo = some o → HOp ρ fr e o) (hhi : ∀ o, hi = some o → HOp ρ fr e o) (hmx : ∀ o, mx = some o → HOp ρ fr e o)
    {len cap' cap m h l : Nat} (b1 : boundA fr mx' cap' cap' = some m) (b2 : boundA fr hi' len m = some h) (b3 : boundA fr lo' 0 h = some l) (hcap : cap' ≤ cap) (hle : len ≤ cap') (isS : Bool) :
    (Instr.sliceBounds isS len cap (lo.map e) (hi.map e) (mx.map e)).run P w = .ok (l, h, if mx'.isSome then m else cap) w ∧ l ≤ h ∧ h ≤ m ∧ m ≤ cap' ∧ (mx' = none → m = cap') := by
  cases mx with
  | none =>
    simp only [cOpt, Option.some.injEq] at h3
    subst h3
    simp only [boundA, Option.some.injEq] at b1
    subst b1
    cases hi with
    | none =>
      simp only [cOpt, Option.some.injEq] at h2; subst h2
      simp only [boundA, Option.some.injEq] at b2; subst b2
      cases lo with
      | none =>
        simp only [cOpt, Option.some.injEq] at h1; subst h1
        simp only [boundA, Option.some.injEq] at b3; subst b3
        refine ⟨by simp [Instr.sliceBounds], Nat.zero_le _, hle, Nat.le_refl _, fun _ => rfl⟩
      | some o =>
        simp only [cOpt, Option.map_eq_some_iff] at h1
        obtain ⟨o', ho', rfl⟩ := h1
        obtain ⟨r1, r2⟩ := run_bound (P := P) (w := w) ho' (hlo o rfl) b3 (Nat.le_refl _) .sliceB
        refine ⟨by simp [Instr.sliceBounds, r1], r2, hle, Nat.le_refl _, fun _ => rfl⟩
    | some oh =>
      simp only [cOpt, Option.map_eq_some_iff] at h2
      obtain ⟨oh', hoh', rfl⟩ := h2
      obtain ⟨r1, r2⟩ := run_bound (P := P) (w := w) hoh' (hhi oh rfl) b2 hcap (if isS then .sliceAcap else .sliceAlen)
      cases lo with
      | none =>
        simp only [cOpt, Option.some.injEq] at h1; subst h1
        simp only [boundA, Option.some.injEq] at b3; subst b3
        refine ⟨by simp [Instr.sliceBounds, r1], Nat.zero_le _, r2, Nat.le_refl _, fun _ => rfl⟩
      | some o =>
        simp only [cOpt, Option.map_eq_some_iff] at h1
        obtain ⟨o', ho', rfl⟩ := h1
        obtain ⟨r3, r4⟩ := run_bound (P := P) (w := w) ho' (hlo o rfl) b3 (Nat.le_refl _) .sliceB
        refine ⟨by simp [Instr.sliceBounds, r1, r3], r4, r2, Nat.le_refl _, fun _ => rfl⟩
  | some om =>
    simp only [cOpt, Option.map_eq_some_iff] at h3
    obtain ⟨om', hom', rfl⟩ := h3
    obtain ⟨r5, r6⟩ := run_bound (P := P) (w := w) hom' (hmx om rfl) b1 hcap (if isS then .slice3Acap else .slice3Alen)
    cases hi with
    | none => simp at hn
    | some oh =>
      simp only [cOpt, Option.map_eq_some_iff] at h2
      obtain ⟨oh', hoh', rfl⟩ := h2
      obtain ⟨r1, r2⟩ := run_bound (P := P) (w := w) hoh' (hhi oh rfl) b2 (Nat.le_refl _) .slice3B
      cases lo with
      | none =>
        simp only [cOpt, Option.some.injEq] at h1; subst h1
        simp only [boundA, Option.some.injEq] at b3; subst b3
        refine ⟨by simp [Instr.sliceBounds, r1, r5], Nat.zero_le _, r2, r6, fun h => by cases h⟩
      | some o =>
        simp only [cOpt, Option.map_eq_some_iff] at h1
        obtain ⟨o', ho', rfl⟩ := h1
        obtain ⟨r3, r4⟩ := run_bound (P := P) (w := w) ho' (hlo o rfl) b3 (Nat.le_refl _) .slice3C
        refine ⟨by simp [Instr.sliceBounds, r1, r3, r5], r4, r2, r6, fun h => by cases h⟩

theorem ok_slice (hs : Sim P ρ s w) {t : TypeId} {x : Operand} {lo hi mx : Option Operand} {hint : Nat} {ao : AOp} (hc : cOp P hint (.slice t x lo hi mx) = some ao)
    (hx : HOp ρ fr e x) (hlo : ∀ o, lo = some o → HOp ρ fr e o) (hhi : ∀ o, hi = some o → HOp ρ fr e o) (hmx : ∀ o, mx = some o → HOp ρ fr e o)
    {v : AVal} {s' : St} (H : Han) (hev : evalOp H ao fr s = some (v, s')) (o : Oper) (ho : o.op = .slice t x lo hi mx) : OpOk P ρ w ((execOp e o).run P w) v s' := by
  simp only [cOp, Option.pure_def, Option.bind_eq_bind] at hc
  split at hc
  · cases hc
  · rename_i hn
    have hn : (mx.isSome && hi.isNone) = false := Bool.eq_false_iff.2 hn
    split at hc
    · rename_i el hu
      simp only [Option.bind_eq_some_iff, Option.some.injEq] at hc
      obtain ⟨sz, hsz, x', hx', lo', h1, hi', h2, mx', h3, rfl⟩ := hc
      simp only [evalOp, Option.map_eq_some_iff, Prod.mk.injEq] at hev
      obtain ⟨u, hu', rfl, rfl⟩ := hev
      have hr := hx x' hx'
      have hrun : ∀ {a : Option Addr} {len cap : Nat} {l h m : Nat}, e x = .slice a len cap → (Instr.sliceBounds true len cap (lo.map e) (hi.map e) (mx.map e)).run P w = .ok (l, h, m) w →
          (execOp e o).run P w = .ok (.value (.slice (if m = l then a else a.map (·.add (l * sz))) (h - l) (m - l))) w := by
        intro a len cap l h m he hb
        simp only [execOp, ho, Instr.sliceAt, Sem.run_bind, run_underlying hu, Result.andThen_ok, Instr.slice, he, hb, run_size hsz, Sem.run_pure]
      unfold sliceA at hu'
      split at hu'
      · rename_i hv
        rw [hv] at hr; simp only [VRel] at hr
        simp only [Option.bind_eq_bind, Option.bind_eq_some_iff, Option.pure_def, Option.some.injEq] at hu'
        obtain ⟨m, b1, h, b2, l, b3, rfl⟩ := hu'
        obtain ⟨r1, r2, r3, r4, r5⟩ := run_bounds (P := P) (w := w) h1 h2 h3 hn hlo hhi hmx b1 b2 b3 (cap := 0) (Nat.le_refl _) (Nat.le_refl _) true
        have hm0 : m = 0 := by omega
        have hh0 : h = 0 := by omega
        have hl0 : l = 0 := by omega
        subst hm0; subst hh0; subst hl0
        refine OpOk.same (v' := .slice none 0 0) hs ?_ (by simp [VRel])
        rw [hrun hr r1]; simp
      · rename_i cs len perm hv
        rw [hv] at hr; simp only [VRel] at hr
        simp only [Option.bind_eq_bind, Option.bind_eq_some_iff] at hu'
        obtain ⟨m, b1, h, b2, l, b3, hu'⟩ := hu'
        rcases hr with ⟨rfl, rfl, hno, he⟩ | ⟨R, off, cap, he, hle, hI, hp⟩
        · obtain ⟨r1, r2, r3, r4, r5⟩ := run_bounds (P := P) (w := w) h1 h2 h3 hn hlo hhi hmx b1 b2 b3 (cap := 0) (Nat.le_refl _) (Nat.le_refl _) true
          have hm0 : m = 0 := by omega
          have hh0 : h = 0 := by omega
          have hl0 : l = 0 := by omega
          subst hm0; subst hh0; subst hl0
          simp only [List.length_nil, Nat.zero_mul, if_true, Option.pure_def, Option.some.injEq] at hu'
          subst hu'
          refine OpOk.same (v' := .slice none 0 0) hs ?_ ?_
          · rw [hrun he r1]; simp
          · simp only [VRel]
            refine .inl ⟨by simp, by simp, fun p => ?_, by simp⟩
            split <;> simp
        split at hu'
        · rename_i hlen
          simp only [Option.pure_def, Option.some.injEq] at hu'
          subst hu'
          obtain ⟨r1, r2, r3, r4, r5⟩ := run_bounds (P := P) (w := w) h1 h2 h3 hn hlo hhi hmx b1 b2 b3 (cap := cap) hle (Nat.le_refl _) true
          have hM : h ≤ (if mx'.isSome then m else cap) := by split <;> omega
          generalize hMM : (if mx'.isSome then m else cap) = M at r1 hM
          refine OpOk.same (v' := .slice (some ⟨R, if M = l then off else off + l * sz, none⟩) (h - l) (M - l)) hs ?_ ?_
          · rw [hrun he r1]
            by_cases hml : M = l
            · simp [hml]
            · simp [hml, addr_add]
          · simp only [VRel]
            refine .inr ⟨R, _, _, rfl, by omega, ?_, ?_⟩
            · by_cases hml : M = l
              · have : h - l = 0 := by omega
                rw [this]; simp [IRel]
              · simp only [hml, if_false]
                exact (hI.drop (l * sz)).take ((h - l) * sz)
            · by_cases hc : mx'.isSome ∧ m = h
              · simp only [hc, and_self, if_true, PermOk]
                rw [if_pos hc.1] at hMM; omega
              · rw [if_neg hc]; trivial
        · cases hu'
      · rename_i b off len cap hv
        rw [hv] at hr; simp only [VRel] at hr
        obtain ⟨R, c, hm, he, hle, hcc⟩ := hr
        have hcc' := hcc cap rfl
        subst hcc'
        simp only [Option.bind_eq_bind, Option.bind_eq_some_iff, Option.pure_def, Option.some.injEq] at hu'
        obtain ⟨m, b1, h, b2, l, b3, rfl⟩ := hu'
        obtain ⟨r1, r2, r3, r4, r5⟩ := run_bounds (P := P) (w := w) h1 h2 h3 hn hlo hhi hmx b1 b2 b3 (cap := c) (Nat.le_refl _) hle true
        have hMM : (if mx'.isSome then m else c) = m := by
          cases hmx' : mx' with
          | none => simp [r5 hmx']
          | some _ => simp
        rw [hMM] at r1
        refine OpOk.same (v' := .slice (some ⟨R, if m = l then off else off + l * sz, none⟩) (h - l) (m - l)) hs ?_ ?_
        · rw [hrun he r1]
          by_cases hml : m = l
          · simp [hml]
          · simp [hml, addr_add]
        · simp only [VRel]
          exact ⟨R, _, hm, rfl, by omega, fun c' h => by cases h; rfl⟩
      · rename_i b off len hv
        rw [hv] at hr; simp only [VRel] at hr
        obtain ⟨R, c, hm, he, hle, hcc⟩ := hr
        split at hu'
        · rename_i hlm
          obtain ⟨hl0, hm0⟩ := hlm
          simp only [Option.bind_eq_bind, Option.bind_eq_some_iff, Option.pure_def, Option.some.injEq] at hu'
          obtain ⟨h, b2, rfl⟩ := hu'
          have hl0' : lo' = none := by simpa using hl0
          have hm0' : mx' = none := by simpa using hm0
          subst hl0'; subst hm0'
          obtain ⟨r1, r2, r3, r4, r5⟩ := run_bounds (P := P) (w := w) h1 h2 h3 hn hlo hhi hmx (cap' := len) (m := len) (len := len) rfl b2 (l := 0) rfl (cap := c) hle (Nat.le_refl _) true
          simp only [Option.isSome_none, Bool.false_eq_true, if_false] at r1
          refine OpOk.same (v' := .slice (some ⟨R, off, none⟩) h c) hs ?_ ?_
          · rw [hrun he r1]
            simp [addr_add]
          · simp only [VRel]
            exact ⟨R, _, hm, rfl, by omega, fun c' h => by cases h⟩
        · cases hu'
      · cases hu'
    · rename_i n el hu
      simp only [Option.bind_eq_some_iff, Option.some.injEq] at hc
      obtain ⟨sz, hsz, x', hx', lo', h1, hi', h2, mx', h3, rfl⟩ := hc
      simp only [evalOp, Option.map_eq_some_iff, Prod.mk.injEq] at hev
      obtain ⟨u, hu', rfl, rfl⟩ := hev
      have hr := hx x' hx'
      unfold sliceArrA at hu'
      split at hu'
      · rename_i b off hv
        rw [hv] at hr; simp only [VRel] at hr
        obtain ⟨R, hm, he⟩ := hr
        simp only [Option.bind_eq_bind, Option.bind_eq_some_iff, Option.pure_def, Option.some.injEq] at hu'
        obtain ⟨m, b1, h, b2, l, b3, rfl⟩ := hu'
        obtain ⟨r1, r2, r3, r4, r5⟩ := run_bounds (P := P) (w := w) h1 h2 h3 hn hlo hhi hmx b1 b2 b3 (cap := n) (Nat.le_refl _) (Nat.le_refl _) false
        have hMM : (if mx'.isSome then m else n) = m := by
          cases hmx' : mx' with
          | none => simp [r5 hmx']
          | some _ => simp
        rw [hMM] at r1
        refine OpOk.same (v' := .slice (some ⟨R, if m = l then off else off + l * sz, none⟩) (h - l) (m - l)) hs ?_ ?_
        · simp only [execOp, ho, Instr.sliceAt, Sem.run_bind, run_underlying hu, Result.andThen_ok, he, Instr.sureAddr, Sem.run_pure, r1, run_size hsz]
          by_cases hml : m = l
          · simp [hml]
          · simp [hml, addr_add]
        · simp only [VRel]
          exact ⟨R, _, hm, rfl, by omega, fun c' h => by cases h; rfl⟩
      · cases hu'
    · cases hc

theorem ok_fieldAddr (hs : Sim P ρ s w) {t : TypeId} {x : Operand} {f : Nat} {hint : Nat} {ao : AOp} (hc : cOp P hint (.fieldAddr t x f) = some ao) (hx : HOp ρ fr e x)
    {v : AVal} {s' : St} (H : Han) (hev : evalOp H ao fr s = some (v, s')) (o : Oper) (ho : o.op = .fieldAddr t x f) : OpOk P ρ w ((execOp e o).run P w) v s' := by
  simp only [cOp, Option.pure_def, Option.bind_eq_bind] at hc
  split at hc
  · rename_i fs hu
    simp only [Option.bind_eq_some_iff] at hc
    obtain ⟨fd, hf, n, hn, hc⟩ := hc
    split at hc
    · cases hc
    · rename_i hn0
      simp only [Option.bind_eq_some_iff, Option.some.injEq] at hc
      obtain ⟨x', hx', rfl⟩ := hc
      have hr := hx x' hx'
      have hrun : ∀ {R off : Nat}, e x = .pointer (some ⟨R, off, none⟩) → (execOp e o).run P w = .ok (.value (.pointer (some ⟨R, off + fd.offset, none⟩))) w := by
        intro R off he
        simp only [execOp, ho, Instr.fieldAt, Sem.run_bind, run_underlying hu, Result.andThen_ok, hf, he, Instr.sureAddr, Sem.run_pure, fieldPlace, run_size hn, hn0, if_false, addr_add]
      simp only [evalOp] at hev
      split at hev
      · rename_i b off hv
        cases hev
        rw [hv] at hr; simp only [VRel] at hr
        obtain ⟨R, hm, he⟩ := hr
        exact OpOk.same hs (hrun he) (by simp only [VRel]; exact ⟨R, hm, rfl⟩)
      · rename_i cs hv
        cases hev
        rw [hv] at hr; simp only [VRel] at hr
        obtain ⟨R, off, he, hI⟩ := hr
        exact OpOk.same hs (hrun he) (by simp only [VRel]; exact ⟨R, _, rfl, hI.drop _⟩)
      · cases hev
  · cases hc

theorem run_part {t : TypeId} {g : Bool} {n : Nat} (hg : aggT P t = some g) (hn : sizeT P t = some n) {cs : List AVal} {vs : Array Value} (h : CRel ρ cs vs.toList) {off : Nat} {u : AVal} (hp : partA g cs off n = some u) :
    ∃ r, (part t vs off).run P w = .ok r w ∧ VRel ρ u r := by
  unfold partA at hp
  have hl := h.length
  cases g with
  | false =>
    simp only [Bool.false_eq_true, if_false] at hp
    obtain ⟨r, h1, h2, h3⟩ := h.get off u hp
    refine ⟨r, ?_, h3⟩
    have : vs[off]? = some r := by rw [← Array.getElem?_toList]; exact h1
    simp [part, run_isAgg hg, this]
  | true =>
    simp only [if_true] at hp
    split at hp
    · rename_i hle
      cases hp
      refine ⟨.agg (vs.extract off (off + n)), by simp [part, run_isAgg hg, run_size hn], ?_⟩
      simp only [VRel]
      refine ⟨_, rfl, ?_⟩
      have := (h.drop off).take n
      rw [Array.toList_extract]
      simpa [List.extract_eq_take_drop] using this
    · cases hp

theorem ok_field (hs : Sim P ρ s w) {t : TypeId} {x : Operand} {f : Nat} {hint : Nat} {ao : AOp} (hc : cOp P hint (.field t x f) = some ao) (hx : HOp ρ fr e x)
    {v : AVal} {s' : St} (H : Han) (hev : evalOp H ao fr s = some (v, s')) (o : Oper) (ho : o.op = .field t x f) : OpOk P ρ w ((execOp e o).run P w) v s' := by
  simp only [cOp, Option.pure_def, Option.bind_eq_bind] at hc
  split at hc
  · rename_i fs hu
    simp only [Option.bind_eq_some_iff, Option.some.injEq] at hc
    obtain ⟨fd, hf, g, hg, n, hn, x', hx', rfl⟩ := hc
    have hr := hx x' hx'
    simp only [evalOp] at hev
    split at hev
    · rename_i cs hv
      simp only [Option.map_eq_some_iff, Prod.mk.injEq] at hev
      obtain ⟨u, hp, rfl, rfl⟩ := hev
      rw [hv] at hr; simp only [VRel] at hr
      obtain ⟨vs, he, hcr⟩ := hr
      obtain ⟨r, h1, h2⟩ := run_part (P := P) (w := w) hg hn hcr hp
      exact OpOk.same (v' := r) hs (by simp [execOp, ho, Instr.field, run_underlying hu, hf, he, asAgg, h1]) h2
    · cases hev
  · cases hc

theorem idx_rel {i : Operand} {i' : AOpd} (hc : cOpd i = some i') (hi : HOp ρ fr e i) {len k : Nat} (h : idxA (i'.eval fr) len = some k) : ∃ kd n, e i = .int kd n ∧ 0 ≤ n ∧ n < len ∧ n.toNat = k ∧ k < len := by
  have hr := hi i' hc
  unfold idxA at h
  split at h
  · rename_i kd n hv
    rw [hv] at hr; simp only [VRel] at hr
    split at h
    · rename_i hb
      cases h
      exact ⟨kd, n, hr, hb.1, hb.2, rfl, by omega⟩
    · cases h
  · cases h

theorem ok_indexAddr (hs : Sim P ρ s w) {t : TypeId} {x i : Operand} {hint : Nat} {ao : AOp} (hc : cOp P hint (.indexAddr t x i) = some ao) (hx : HOp ρ fr e x) (hi : HOp ρ fr e i)
    {v : AVal} {s' : St} (H : Han) (hev : evalOp H ao fr s = some (v, s')) (o : Oper) (ho : o.op = .indexAddr t x i) : OpOk P ρ w ((execOp e o).run P w) v s' := by
  simp only [cOp, Option.pure_def, Option.bind_eq_bind] at hc
  split at hc
  · rename_i n el hu
    simp only [Option.bind_eq_some_iff, Option.some.injEq] at hc
    obtain ⟨sz, hsz, x', hx', i', hi', rfl⟩ := hc
    have hr := hx x' hx'
    have hrun : ∀ {R off k : Nat}, e x = .pointer (some ⟨R, off, none⟩) → idxA (i'.eval fr) n = some k → (execOp e o).run P w = .ok (.value (.pointer (some ⟨R, off + k * sz, none⟩))) w := by
      intro R off k he hk
      obtain ⟨kd, m, h1, h2, h3, h4, h5⟩ := idx_rel hi' hi hk
      simp only [execOp, ho, Instr.indexAt, Sem.run_bind, h1, asIntOf, Sem.run_pure, Result.andThen_ok, run_underlying hu, he, Instr.sureAddr]
      rw [if_pos ⟨h2, h3⟩]
      simp [run_size hsz, addr_add, h4]
    simp only [evalOp] at hev
    split at hev
    · rename_i b off k hv hk
      cases hev
      rw [hv] at hr; simp only [VRel] at hr
      obtain ⟨R, hm, he⟩ := hr
      exact OpOk.same hs (hrun he hk) (by simp only [VRel]; exact ⟨R, hm, rfl⟩)
    · rename_i cs k hv hk
      cases hev
      rw [hv] at hr; simp only [VRel] at hr
      obtain ⟨R, off, he, hI⟩ := hr
      exact OpOk.same hs (hrun he hk) (by simp only [VRel]; exact ⟨R, _, rfl, hI.drop _⟩)
    · cases hev
  · rename_i el hu
    simp only [Option.bind_eq_some_iff, Option.some.injEq] at hc
    obtain ⟨sz, hsz, x', hx', i', hi', rfl⟩ := hc
    have hr := hx x' hx'
    have hrun : ∀ {R off k len cap : Nat}, e x = .slice (some ⟨R, off, none⟩) len cap → idxA (i'.eval fr) len = some k → (execOp e o).run P w = .ok (.value (.pointer (some ⟨R, off + k * sz, none⟩))) w := by
      intro R off k len cap he hk
      obtain ⟨kd, m, h1, h2, h3, h4, h5⟩ := idx_rel hi' hi hk
      simp only [execOp, ho, Instr.indexAt, Sem.run_bind, h1, asIntOf, Sem.run_pure, Result.andThen_ok, run_underlying hu, he]
      rw [if_pos ⟨h2, h3⟩]
      simp [run_size hsz, addr_add, h4]
    simp only [evalOp] at hev
    split at hev
    · rename_i cs len perm hv
      simp only [Option.map_eq_some_iff, Prod.mk.injEq] at hev
      obtain ⟨k, hk, rfl, rfl⟩ := hev
      rw [hv] at hr; simp only [VRel] at hr
      rcases hr with ⟨_, h0, _⟩ | ⟨R, off, cap, he, hle, hI, _⟩
      · have := (idx_rel hi' hi hk); subst h0; obtain ⟨_, _, _, _, _, h5⟩ := this; omega
      exact OpOk.same hs (hrun he hk) (by simp only [VRel]; exact ⟨R, _, rfl, hI.drop _⟩)
    · rename_i b off len cap hv
      simp only [Option.map_eq_some_iff, Prod.mk.injEq] at hev
      obtain ⟨k, hk, rfl, rfl⟩ := hev
      rw [hv] at hr; simp only [VRel] at hr
      obtain ⟨R, c, hm, he, _⟩ := hr
      exact OpOk.same hs (hrun he hk) (by simp only [VRel]; exact ⟨R, hm, rfl⟩)
    · cases hev
  · cases hc

theorem ok_index (hs : Sim P ρ s w) {t : TypeId} {x i : Operand} {hint : Nat} {ao : AOp} (hc : cOp P hint (.index t x i) = some ao) (hx : HOp ρ fr e x) (hi : HOp ρ fr e i)
    {v : AVal} {s' : St} (H : Han) (hev : evalOp H ao fr s = some (v, s')) (o : Oper) (ho : o.op = .index t x i) : OpOk P ρ w ((execOp e o).run P w) v s' := by
  simp only [cOp, Option.pure_def, Option.bind_eq_bind] at hc
  split at hc
  · rename_i n el hu
    simp only [Option.bind_eq_some_iff, Option.some.injEq] at hc
    obtain ⟨g, hg, sz, hsz, x', hx', i', hi', rfl⟩ := hc
    have hr := hx x' hx'
    simp only [evalOp] at hev
    split at hev
    · rename_i cs k hv hk
      simp only [Option.map_eq_some_iff, Prod.mk.injEq] at hev
      obtain ⟨u, hp, rfl, rfl⟩ := hev
      rw [hv] at hr; simp only [VRel] at hr
      obtain ⟨vs, he, hcr⟩ := hr
      obtain ⟨kd, m, h1, h2, h3, h4, h5⟩ := idx_rel hi' hi hk
      obtain ⟨r, h6, h7⟩ := run_part (P := P) (w := w) hg hsz hcr hp
      refine OpOk.same (v' := r) hs ?_ h7
      simp only [execOp, ho, Instr.index, Sem.run_bind, h1, asIntOf, Sem.run_pure, Result.andThen_ok, run_underlying hu, he]
      rw [if_pos ⟨h2, h3⟩]
      simp [run_size hsz, h4, h6]
    · cases hev
  · cases hc

theorem ok_extract (hs : Sim P ρ s w) {x : Operand} {i : Nat} {x' : AOpd} (hx : HOp ρ fr e x) (hcx : cOpd x = some x')
    {v : AVal} {s' : St} (H : Han) (hev : evalOp H (.extract x' i) fr s = some (v, s')) (o : Oper) (ho : o.op = .extract x i) : OpOk P ρ w ((execOp e o).run P w) v s' := by
  have hr := hx x' hcx
  simp only [evalOp] at hev
  split at hev
  · rename_i vs hv
    split at hev
    · rename_i u hp
      split at hev
      · cases hev
      · rename_i hnt
        cases hev
        rw [hv] at hr; simp only [VRel] at hr
        obtain ⟨us, he, hvr⟩ := hr.resolve_left (fun h0 => by
          subst h0
          cases i with
          | zero => simp only [List.getElem?_cons_zero, Option.some.injEq] at hp; subst hp; exact hnt rfl
          | succ i => simp at hp)
        obtain ⟨r, h1, h2⟩ := hvr.get i _ hp
        have h1' : us[i]? = some r := by rw [← Array.getElem?_toList]; exact h1
        exact OpOk.same (v' := r) hs (by simp [execOp, ho, Instr.extract, he, h1']) h2
    · cases hev
  · cases hev
end
end Go.Proofs.Ytlhfeiacigmliaa

/- Lengths, appends, the greatest and the least. -/
namespace Go.Proofs.Ytlhfeiacigmliaa
open Go

section
variable {P : Program} {ρ : Rho} {s : St} {w : World} {fr : List AVal} {e : Operand → Value}

theorem exec_builtin {b : Builtin} {args : Array Operand} {ats : Array TypeId} {o : Oper} (ho : o.op = .call { callee := .builtin b, args := args, argTypes := ats }) :
    execOp e o = builtin b ats o.type (args.map fun | .const _ => true | _ => false) (args.map e) := by
  simp only [execOp, ho, resolve, pure_bind, invoke]
  rfl

theorem ok_len (hs : Sim P ρ s w) {c : Call} {hint : Nat} {ao : AOp} (hb : c.callee = .builtin .len) (hc : cOp P hint (.call c) = some ao) (ha : ∀ x ∈ c.args.toList, HOp ρ fr e x)
    {v : AVal} {s' : St} (H : Han) (hev : evalOp H ao fr s = some (v, s')) (o : Oper) (ho : o.op = .call c) : OpOk P ρ w ((execOp e o).run P w) v s' := by
  obtain ⟨callee, args, ats⟩ := c
  simp only at hb; subst hb
  simp only [cOp, Option.pure_def, Option.bind_eq_bind] at hc
  split at hc
  · rename_i t x ht hx
    have hx1 : args = #[x] := Array.toList_inj.1 hx
    have ht1 : ats = #[t] := Array.toList_inj.1 ht
    subst hx1; subst ht1
    rw [exec_builtin ho]
    split at hc
    · rename_i el hu
      simp only [Option.bind_eq_some_iff, Option.some.injEq] at hc
      obtain ⟨x', hx', rfl⟩ := hc
      have hr := ha x (by simp) x' hx'
      simp only [evalOp] at hev
      split at hev
      · rename_i hv
        cases hev
        rw [hv] at hr; simp only [VRel] at hr
        exact OpOk.same (v' := .int .i64 0) hs (by simp [builtin, Builtin.len_, run_underlying hu, hr, goInt]) (by simp [VRel])
      · rename_i cs len perm hv
        cases hev
        rw [hv] at hr; simp only [VRel] at hr
        rcases hr with ⟨_, h0, _, he⟩ | ⟨R, off, cap, he, _⟩
        · subst h0
          exact OpOk.same (v' := .int .i64 0) hs (by simp [builtin, Builtin.len_, run_underlying hu, he, goInt]) (by simp [VRel])
        · exact OpOk.same (v' := .int .i64 len) hs (by simp [builtin, Builtin.len_, run_underlying hu, he, goInt]) (by simp [VRel])
      · rename_i b off len cap hv
        cases hev
        rw [hv] at hr; simp only [VRel] at hr
        obtain ⟨R, c, _, he, _⟩ := hr
        exact OpOk.same (v' := .int .i64 len) hs (by simp [builtin, Builtin.len_, run_underlying hu, he, goInt]) (by simp [VRel])
      · cases hev
    · rename_i n el hu
      simp only [Option.bind_eq_some_iff, Option.some.injEq] at hc
      obtain ⟨x', hx', rfl⟩ := hc
      simp only [evalOp, Option.some.injEq, Prod.mk.injEq] at hev
      obtain ⟨rfl, rfl⟩ := hev
      exact OpOk.same (v' := .int .i64 n) hs (by simp [builtin, Builtin.len_, run_underlying hu, goInt]) (by simp [VRel])
    · cases hc
  · cases hc

theorem foldlM_maxmin {isMax : Bool} : ∀ {l : List AVal} {us : List Value} {v r : AVal} {u : Value}, VRels ρ l us → VRel ρ v u → l.foldlM (maxmin2 isMax) v = some r →
    ∃ q, (us.foldlM (if isMax then Builtin.max2 else Builtin.min2) u).run P w = .ok q w ∧ VRel ρ r q
  | [], us, v, r, u, hl, hv, h => by
    simp only [VRels] at hl; subst hl
    simp at h; subst h
    exact ⟨u, by simp, hv⟩
  | a :: l, us, v, r, u, hl, hv, h => by
    simp only [VRels] at hl
    obtain ⟨x, us', rfl, ha, hl⟩ := hl
    simp only [List.foldlM_cons, Option.bind_eq_bind, Option.bind_eq_some_iff] at h
    obtain ⟨m, hm, h⟩ := h
    unfold maxmin2 at hm
    split at hm
    · rename_i k p k' q
      cases hm
      simp only [VRel] at hv ha
      subst hv; subst ha
      obtain ⟨r', h1, h2⟩ := foldlM_maxmin (isMax := isMax) (u := .int k (if isMax then (if q > p then q else p) else (if q < p then q else p))) hl (by simp [VRel]) h
      refine ⟨r', ?_, h2⟩
      cases isMax
      · simp only [Bool.false_eq_true, if_false] at h1 ⊢
        simp only [List.foldlM_cons, Sem.run_bind, Builtin.min2, Sem.run_pure, Result.andThen_ok]; exact h1
      · simp only [if_true] at h1 ⊢
        simp only [List.foldlM_cons, Sem.run_bind, Builtin.max2, Sem.run_pure, Result.andThen_ok]; exact h1
    · cases hm

theorem ok_maxmin (hs : Sim P ρ s w) {c : Call} {isMax : Bool} (hb : c.callee = .builtin (if isMax then .max else .min)) {args' : List AOpd} (hc : cOpds c.args = some args') (ha : ∀ x ∈ c.args.toList, HOp ρ fr e x)
    {v : AVal} {s' : St} (H : Han) (hev : evalOp H (.maxmin isMax args') fr s = some (v, s')) (o : Oper) (ho : o.op = .call c) : OpOk P ρ w ((execOp e o).run P w) v s' := by
  obtain ⟨callee, args, ats⟩ := c
  simp only at hb; subst hb
  have hr := cOpds_rel (ρ := ρ) (fr := fr) (e := e) hc ha
  simp only [evalOp] at hev
  split at hev
  · cases hev
  · rename_i a as has
    rw [has] at hr
    simp only [VRels] at hr
    obtain ⟨u, us, hus, h1, h2⟩ := hr
    simp only [Option.map_eq_some_iff, Prod.mk.injEq] at hev
    obtain ⟨r, hf, rfl, rfl⟩ := hev
    obtain ⟨q, h3, h4⟩ := foldlM_maxmin (P := P) (w := w) (isMax := isMax) h2 h1 hf
    rw [exec_builtin ho]
    refine OpOk.same (v' := q) hs ?_ h4
    cases isMax
    · simp only [Bool.false_eq_true, if_false] at h3
      simp [builtin, Builtin.min_, hus, h3]
    · simp only [if_true] at h3
      simp [builtin, Builtin.max_, hus, h3]

theorem lookN_all {s : St} {cs : List AVal} {n : Nat} (h : cs.length = n) : lookN s (.vref cs) n = some cs := by
  subst h; simp only [lookN]; rw [if_pos (Nat.le_refl _), List.take_length]

theorem elems_rel (hs : Sim P ρ s w) {sz : Nat} {x : AVal} {vx : Value} (hx : VRel ρ x vx) {n : Nat} {new : List AVal} (h : elemsA s sz x = some (n, new)) :
    (∃ a c, vx = .slice a n c) ∧ (0 < n → ∃ R off c nv, vx = .slice (some ⟨R, off, none⟩) n c ∧ CRel ρ new nv ∧ nv.length = n * sz ∧ ∀ (j : Nat) (u : Value), nv[j]? = some u → w.cell? ((⟨R, off, none⟩ : Addr).add j) = some u) := by
  unfold elemsA at h
  split at h
  · cases h
    simp only [VRel] at hx; subst hx
    exact ⟨⟨_, _, rfl⟩, fun h => by omega⟩
  · rename_i cs len perm
    simp only [VRel] at hx
    split at h
    · rename_i hl
      cases h
      rcases hx with ⟨_, rfl, _, rfl⟩ | ⟨R, off, cap, rfl, hle, hI, _⟩
      · exact ⟨⟨_, _, rfl⟩, fun h => by omega⟩
      refine ⟨⟨_, _, rfl⟩, fun _ => ?_⟩
      have hv : VRel ρ (.vref new) (.pointer (some ⟨R, off, none⟩)) := by simp only [VRel]; exact ⟨R, off, rfl, hI⟩
      obtain ⟨R', off', vs, h1, h2, h3, h4⟩ := lookN_rel hs (n := n * sz) (cs := new) hv (lookN_all hl)
      simp only [Value.pointer.injEq, Option.some.injEq, Addr.mk.injEq, and_true] at h1
      obtain ⟨rfl, rfl⟩ := h1
      exact ⟨R, off, cap, vs, rfl, h2, h3, h4⟩
    · cases h
  · rename_i b off len cap
    simp only [VRel] at hx
    obtain ⟨R, c, hm, rfl, hle, _⟩ := hx
    simp only [Option.map_eq_some_iff, Prod.mk.injEq] at h
    obtain ⟨cs, hl, rfl, rfl⟩ := h
    refine ⟨⟨_, _, rfl⟩, fun _ => ?_⟩
    obtain ⟨R', off', vs, h1, h2, h3, h4⟩ := lookN_rel hs (va := .pointer (some ⟨R, off, none⟩)) (by simp only [VRel]; exact ⟨R, hm, rfl⟩) hl
    simp only [Value.pointer.injEq, Option.some.injEq, Addr.mk.injEq, and_true] at h1
    obtain ⟨rfl, rfl⟩ := h1
    exact ⟨R, off, c, vs, rfl, h2, h3, h4⟩
  · cases h

theorem run_append_zero {t ty el : TypeId} {i : TypeInfo} (ht : P.underlying t = some (.slice el)) (hi : P.info? el = some i) {a b : Option Addr} {len cap c : Nat} (h : len ≤ cap) :
    (Builtin.append_ #[t, t] ty #[.slice a len cap, .slice b 0 c]).run P w = .ok (.slice a len cap) w := by
  cases a <;> cases b <;> simp [Builtin.append_, run_underlying ht, sizeOf, typeInfo, hi, Builtin.lenOf, h, Builtin.firstCells, loadCells, loadCellsFrom, storeCells]

theorem run_append_in (t ty el el' : TypeId) (i : TypeInfo) (ht : P.underlying t = some (.slice el)) (hi : P.info? el = some i)
    (g sLen sCap : Nat) (cur : Array Value) (hg : w.heap[g]? = some (.cells cur el' (0, 0)))
    (a : Addr) (m c : Nat) (news : List Value) (hl : news.length = m * i.size) (hnews : ∀ (j : Nat) (u : Value), news[j]? = some u → w.cell? (a.add j) = some u) (h1 : ∀ u ∈ news, u.oneCell' = true)
    (hroom : sLen + m ≤ sCap) (hfit : sLen * i.size + news.length ≤ cur.size) :
    (Builtin.append_ #[t, t] ty #[.slice (some ⟨g, 0, none⟩) sLen sCap, .slice (some a) m c]).run P w =
      .ok (.slice (some ⟨g, 0, none⟩) (sLen + m) sCap) (w.setRow g (cur.toList.take (sLen * i.size) ++ news ++ cur.toList.drop (sLen * i.size + news.length)).toArray) := by
  have hf := run_firstCells_some (P := P) w i.size m a m c news hl hnews
  have hst := run_storeCells_at P g (sLen * i.size) el' news 0 cur w hg (by simpa using hfit) h1
  simp only [Nat.add_zero] at hst
  simp [Builtin.append_, run_underlying ht, sizeOf, typeInfo, hi, Builtin.lenOf, hroom, hf, addr_add, hst]

/-- Cells behind a row, written once. -/
theorem Sim.fixIn {R lo : Nat} {news : List Value} {cur : Array Value} {el : TypeId} {w' : World} (hs : Sim P ρ s w) (hnm : ∀ b, ρ.m b ≠ some R) (hg : w.heap[R]? = some (.cells cur el (0, 0)))
    (hfit : lo + news.length ≤ cur.size) (hI : ∀ off, lo ≤ off → ρ.I R off = none) (hap : ∀ q r, s.lives q → ρ.pm q = some r → r.R ≠ R)
    (hw : w'.heap = w.heap.setIfInBounds R (.cells (cur.toList.take lo ++ news ++ cur.toList.drop (lo + news.length)).toArray el (0, 0))) : Sim P (ρ.fix R lo news) s w' := by
  have hle : ρ.le (ρ.fix R lo news) := Rho.le_fix fun off h _ => hI off h
  have hlt : R < w.heap.size := (Array.getElem?_eq_some_iff.1 hg).1
  have hother : ∀ {Q : Nat}, Q ≠ R → w'.heap[Q]? = w.heap[Q]? := fun {Q} hQ => by rw [hw, Array.getElem?_setIfInBounds_ne (Ne.symm hQ)]
  have hsame : w'.heap[R]? = some (.cells (cur.toList.take lo ++ news ++ cur.toList.drop (lo + news.length)).toArray el (0, 0)) := by rw [hw]; simp [hlt]
  have hsz : w'.heap.size = w.heap.size := by rw [hw]; simp
  refine ⟨hs.inj, fun b Q e' => ?_, fun b Q o e' g => ?_, fun Q off v e' => ?_, fun b Q e' off => ?_, fun p r e' => ?_, hs.ver, hs.pnm, fun p r e' g => ?_, hs.apart⟩
  · rw [hsz]; exact hs.mlt b Q e'
  · obtain ⟨o', h1, h2⟩ := hs.obj b Q o e' g
    exact ⟨o', by rw [hother (fun e'' => hnm b (e'' ▸ e'))]; exact h1, h2.mono hle⟩
  · simp only [Rho.fix] at e'
    split at e'
    · rename_i hx
      obtain ⟨rfl, h1, h2⟩ := hx
      simp only [World.cell?, hsame, Option.isSome_none, Bool.false_eq_true, if_false]
      rw [List.getElem?_toArray, List.append_assoc, List.getElem?_append_right (by simp; omega), List.getElem?_append_left (by simp; omega)]
      simp only [List.length_take, Array.length_toList]
      rw [Nat.min_eq_left (by omega)]
      exact e'
    · rename_i hx
      have h1 := hs.imm Q off v e'
      by_cases hQ : Q = R
      · subst hQ
        have hlo : off < lo := Nat.lt_of_not_le fun h => by rw [hI off h] at e'; cases e'
        simp only [World.cell?, hg, Option.isSome_none, Bool.false_eq_true, if_false] at h1
        simp only [World.cell?, hsame, Option.isSome_none, Bool.false_eq_true, if_false]
        rw [List.getElem?_toArray, List.append_assoc, List.getElem?_append_left (by simp; omega), List.getElem?_take, if_pos hlo, Array.getElem?_toList]
        exact h1
      · rw [World.cell?_of_block (w := w) (a := ⟨Q, off, none⟩) (hother hQ)]; exact h1
  · simp only [Rho.fix]
    split
    · rename_i hx; obtain ⟨rfl, _⟩ := hx; exact absurd e' (hnm b)
    · exact hs.free b Q e' off
  · rw [hsz]; exact hs.plt p r e'
  · obtain ⟨cs, e'', h1, h2, h3⟩ := hs.room p r e' g
    have hQ := hap p r e' g
    refine ⟨cs, e'', by rw [hother hQ]; exact h1, h2, fun off ho => ?_⟩
    simp only [Rho.fix]
    rw [if_neg (fun h => hQ h.1)]
    exact h3 off ho

/-- A row grown into a new block, with room behind it. -/
theorem Sim.grown (hs : Sim P ρ s w) {p : Nat} {vs : Array Value} {el : TypeId} {all rest : List Value} {need cap sz : Nat} {cs : List AVal} {w' : World} (hv : vs.toList = all ++ rest) (hl : all.length = need * sz) (hsz : vs.size = cap * sz)
    (hp : p < s.pn) (hcur : s.cur p = need) (hnone : ρ.pm (p, need) = none) (h0 : 0 < need) (hcap : need ≤ cap) (hc : CRel ρ cs all) (hw : w'.heap = w.heap.push (.cells vs el)) (hos : w'.os = w.os := by rfl) (hou : w'.output = w.output := by rfl) :
    ∃ ρ', Sim P ρ' s w' ∧ Fwd ρ w ρ' w' ∧ VRel ρ' (.vsl cs need (.own p)) (.slice (some ⟨w.heap.size, 0, none⟩) need cap) := by
  have hle : ρ.le (ρ.fix w.heap.size 0 all) := Rho.le_fix fun off _ _ => hs.I_new (Nat.le_refl _) off
  have h1 : Sim P (ρ.fix w.heap.size 0 all) s w' := hs.fixNew hv hw
  have hnew : w'.heap[w.heap.size]? = some (.cells vs el) := by rw [hw]; simp
  have hsz' : w'.heap.size = w.heap.size + 1 := by rw [hw]; simp
  have h2 := h1.roomNew (k := (p, need)) (r := ⟨w.heap.size, 0, need, cap, sz⟩) hp hnone hcur (by simp; omega) (fun b hb => by have h3 := (hs.mlt b _ hb).2; simp at h3)
    ⟨vs, el, hnew, by simp; omega, fun off ho => by
      simp only [Rho.fix]
      rw [if_neg (by simp at ho; omega)]
      exact hs.I_new (Nat.le_refl _) off⟩
    (fun p r' _ hr he => by have h3 := (hs.plt p r' hr).2; simp only at he; omega)
  have hle2 : (ρ.fix w.heap.size 0 all).le ((ρ.fix w.heap.size 0 all).rm (p, need) ⟨w.heap.size, 0, need, cap, sz⟩) := Rho.le_rm hnone
  refine ⟨_, h2, ⟨hle.trans hle2, fun R hR => ?_, by omega, fun R hR _ => by rw [hw, Array.getElem?_push, if_neg (by omega)], hos, hou⟩, ?_⟩
  · rcases hR with ⟨b, hb⟩ | ⟨q, r, hq, rfl⟩
    · exact .inl (.inl ⟨b, hb⟩)
    · simp only [Rho.rm] at hq
      split at hq
      · cases hq; exact .inr (Nat.le_refl _)
      · exact .inl (.inr ⟨q, r, hq, rfl⟩)
  · simp only [VRel]
    refine .inr ⟨w.heap.size, 0, cap, rfl, hcap, IRel.of_get fun j a ha => ?_, h0, rfl, sz, ?_, by simp [Rho.rm]⟩
    · obtain ⟨u, h3, h4, h5⟩ := hc.get j a ha
      have hlt := (List.getElem?_eq_some_iff.1 h3).1
      refine ⟨u, ?_, h4, VRel.mono (hle.trans hle2) _ _ h5⟩
      show (if w.heap.size = w.heap.size ∧ 0 ≤ 0 + j ∧ 0 + j < 0 + all.length then all[0 + j - 0]? else _) = some u
      rw [if_pos ⟨rfl, by omega, by omega⟩]
      simpa using h3
    · have := hc.length; omega

theorem ok_append (hs : Sim P ρ s w) {c : Call} {hint : Nat} {ao : AOp} (hb : c.callee = .builtin .append) (hc : cOp P hint (.call c) = some ao) (ha : ∀ x ∈ c.args.toList, HOp ρ fr e x)
    {v : AVal} {s' : St} (H : Han) (hev : evalOp H ao fr s = some (v, s')) (o : Oper) (ho : o.op = .call c) : OpOk P ρ w ((execOp e o).run P w) v s' := by
  obtain ⟨callee, args, ats⟩ := c
  simp only at hb; subst hb
  simp only [cOp, Option.pure_def, Option.bind_eq_bind] at hc
  split at hc
  · rename_i t t' a x ht hx
    have hx1 : args = #[a, x] := Array.toList_inj.1 hx
    have ht1 : ats = #[t, t'] := Array.toList_inj.1 ht
    subst hx1; subst ht1
    split at hc
    · cases hc
    · rename_i htt
      have htt : t = t' := Decidable.byContradiction htt
      subst htt
      rw [exec_builtin ho]
      split at hc
      · rename_i el hu
        simp only [Option.bind_eq_some_iff] at hc
        obtain ⟨i, hi, z, hz, hc⟩ := hc
        split at hc
        · cases hc
        · rename_i hzs
          have hzs : z.cells.length = i.size := Decidable.byContradiction hzs
          simp only [Option.bind_eq_some_iff, Option.some.injEq] at hc
          obtain ⟨a', ha', x', hx', hao⟩ := hc
          have hra := ha a (by simp) a' ha'
          have hrx := ha x (by simp) x' hx'
          have hz' := hz
          unfold zeroT at hz'
          simp only [Option.bind_eq_some_iff] at hz'
          obtain ⟨zv, ⟨i', hi', hzz⟩, hzv⟩ := hz'
          rw [hi] at hi'; cases hi'
          have hcz := (ofValue_rel (ρ := ρ) hzv).cells (ofValue_notup hzv)
          have hzsize : zv.cells.size = i.size := by have := hcz.length; simp at this; omega
          have hbody : ∀ {q : Value} {w1 : World}, (Builtin.append_ #[t, t] o.type #[e a, e x]).run P w = .ok q w1 →
              (builtin .append #[t, t] o.type (Array.map (fun | .const _ => true | _ => false) #[a, x]) (Array.map e #[a, x])).run P w = .ok (.value q) w1 := by
            intro q w1 h
            simp [builtin, h]
          -- the common part: nothing is added
          have hzero : ∀ {new : List AVal}, elemsA s i.size (x'.eval fr) = some (0, new) → (match a'.eval fr with | .sl0 | .vsl .. | .hsl .. => some (a'.eval fr, s) | _ => none) = some (v, s') →
              OpOk P ρ w ((builtin .append #[t, t] o.type (Array.map (fun | .const _ => true | _ => false) #[a, x]) (Array.map e #[a, x])).run P w) v s' := by
            intro new hel h0
            obtain ⟨⟨xa, xc, hxe⟩, _⟩ := elems_rel hs hrx hel
            have hsh : ∃ b len cap, e a = .slice b len cap ∧ len ≤ cap := by
              split at h0
              · rename_i hv; rw [hv] at hra; simp only [VRel] at hra; exact ⟨_, _, _, hra, Nat.le_refl _⟩
              · rename_i hv; rw [hv] at hra; simp only [VRel] at hra; rcases hra with ⟨_, _, _, h1⟩ | ⟨R, off, cap, h1, h2, _⟩ <;> first | exact ⟨_, _, _, h1, h2⟩ | exact ⟨_, _, _, h1, Nat.le_refl _⟩
              · rename_i hv; rw [hv] at hra; simp only [VRel] at hra; obtain ⟨R, c, _, h1, h2, _⟩ := hra; exact ⟨_, _, _, h1, h2⟩
              · cases h0
            have hvs : v = a'.eval fr ∧ s' = s := by
              split at h0 <;> first | (cases h0; exact ⟨rfl, rfl⟩) | cases h0
            obtain ⟨rfl, rfl⟩ := hvs
            obtain ⟨b, len, cap, h1, h2⟩ := hsh
            refine OpOk.same (v' := e a) hs (hbody ?_) hra
            rw [h1, hxe]; exact run_append_zero hu hi h2
          by_cases hh : hint = 1
          · rw [if_pos hh] at hao; subst hao
            simp only [evalOp, appendHsA] at hev
            split at hev
            · cases hev
            · rename_i n new hel
              split at hev
              · rename_i hn; subst hn; exact hzero hel hev
              · rename_i hn
                obtain ⟨R, off, xc, nv, hxe, hnv, hnl, hncell⟩ := (elems_rel hs hrx hel).2 (by omega)
                have hnil : e a = .slice none 0 0 → n * i.bytes ≤ 140737488355328 → n ≤ 140737488355328 → OpOk P ρ w ((builtin .append #[t, t] o.type (Array.map (fun | .const _ => true | _ => false) #[a, x]) (Array.map e #[a, x])).run P w) (.hsl s.n 0 n none) (s.push (.cells new)) := by
                  intro hra hb1 hb2
                  have hrun := run_append_nil (P := P) w t o.type el i zv hu hi hzz ⟨R, off, none⟩ n xc nv hnl hncell (by omega) (by omega) (by omega)
                  refine ⟨_, _, _, ρ.bind s.n w.heap.size, hbody (by rw [hra, hxe]; exact hrun), .inl rfl, ?_, Sim.push (w := w.drew) (hs.of_heap rfl) ?_, ?_⟩
                  · simp only [VRel]; exact ⟨w.heap.size, _, by simp [Rho.bind], rfl, grownCap_ge w n 0 el, fun c' h => by cases h⟩
                  · refine ⟨_, el, (Builtin.zeroCells zv.cells (grownCap w n 0 el - n)).toList, rfl, nv, by simp, CRel.mono (Rho.le_bind (hs.m_new (Nat.le_refl _))) _ _ hnv⟩
                  · exact (Fwd.of_heap (w := w) (w' := w.drew) rfl).trans (Fwd.push (w := w.drew) (hs.of_heap rfl) _)
                split at hev
                · rename_i hv
                  rw [hv] at hra; simp only [VRel] at hra
                  split at hev
                  · rename_i hb
                    cases hev
                    exact hnil hra hb.1 hb.2
                  · cases hev
                · rename_i cs len hv
                  rw [hv] at hra; simp only [VRel] at hra
                  rcases hra with ⟨rfl, rfl, _, hra⟩ | ⟨Ra, oa, ca, hae, hale, hIa, hfull⟩
                  · split at hev
                    · rename_i hb
                      obtain ⟨hb1, hb2, hb3⟩ := hb
                      simp only [Nat.zero_add, List.nil_append, Option.some.injEq, Prod.mk.injEq] at hev hb2 hb3
                      obtain ⟨rfl, rfl⟩ := hev
                      exact hnil hra hb2 hb3
                    · cases hev
                  simp only [PermOk] at hfull
                  subst hfull
                  split at hev
                  · rename_i hb
                    obtain ⟨hb1, hb2, hb3⟩ := hb
                    cases hev
                    obtain ⟨R2, off2, ov, h1, hov, hol, hocell⟩ := lookN_rel hs (n := ca * i.size) (cs := cs) (va := .pointer (some ⟨Ra, oa, none⟩)) (a := .vref cs) (by simp only [VRel]; exact ⟨Ra, oa, rfl, hIa⟩) (lookN_all hb1)
                    simp only [Value.pointer.injEq, Option.some.injEq, Addr.mk.injEq, and_true] at h1
                    obtain ⟨rfl, rfl⟩ := h1
                    have hrun := run_append_grow (P := P) w t o.type el i zv hu hi hzz ⟨Ra, oa, none⟩ ca ca ov hol hocell ⟨R, off, none⟩ n xc nv hnl hncell (by omega) (by omega) (growslice_fits (by omega) (by omega))
                    refine ⟨_, _, _, ρ.bind s.n w.heap.size, hbody (by rw [hae, hxe]; exact hrun), .inl rfl, ?_, Sim.push (w := w.drew) (hs.of_heap rfl) ?_, ?_⟩
                    · simp only [VRel]; exact ⟨w.heap.size, _, by simp [Rho.bind], rfl, grownCap_ge w _ _ el, fun c' h => by cases h⟩
                    · refine ⟨_, el, (Builtin.zeroCells zv.cells (grownCap w (ca + n) ca el - (ca + n))).toList, rfl, ov ++ nv, by simp, CRel.mono (Rho.le_bind (hs.m_new (Nat.le_refl _))) _ _ (hov.append hnv)⟩
                    · exact (Fwd.of_heap (w := w) (w' := w.drew) rfl).trans (Fwd.push (w := w.drew) (hs.of_heap rfl) _)
                  · cases hev
                · cases hev
          · rw [if_neg hh] at hao; subst hao
            simp only [evalOp, appendA] at hev
            split at hev
            · cases hev
            · rename_i n new hel
              split at hev
              · rename_i hn; subst hn; exact hzero hel hev
              · rename_i hn
                obtain ⟨R, off, xc, nv, hxe, hnv, hnl, hncell⟩ := (elems_rel hs hrx hel).2 (by omega)
                have hdrew : Sim P ρ s w.drew := hs.of_heap rfl
                have hnil : e a = .slice none 0 0 → n * i.bytes ≤ 140737488355328 → n ≤ 140737488355328 → OpOk P ρ w ((builtin .append #[t, t] o.type (Array.map (fun | .const _ => true | _ => false) #[a, x]) (Array.map e #[a, x])).run P w) (.vsl new n (.own s.pn)) (s.fresh n) := by
                  intro hra hb1 hb2
                  have hrun := run_append_nil (P := P) w t o.type el i zv hu hi hzz ⟨R, off, none⟩ n xc nv hnl hncell (by omega) (by omega) (by omega)
                  have hge := grownCap_ge w n 0 el
                  obtain ⟨ρ', h1, h2, h3⟩ := Sim.grown (p := s.pn) (w' := w.drew.alloc (.cells (nv.toArray ++ Builtin.zeroCells zv.cells (grownCap w n 0 el - n)) el)) (hdrew.fresh n) (cap := grownCap w n 0 el) (all := nv) (rest := (Builtin.zeroCells zv.cells (grownCap w n 0 el - n)).toList) (sz := i.size) (need := n) (by simp) hnl
                    (by simp only [Array.size_append, List.size_toArray, size_zeroCells, hnl, hzsize, ← Nat.add_mul]; congr 1; omega) (by simp) (by simp [St.fresh_cur]) (hs.pm_new (Nat.le_refl _)) (by omega) hge hnv rfl
                  exact ⟨_, _, _, ρ', hbody (by rw [hra, hxe]; exact hrun), .inl rfl, h3, h1, (Fwd.of_heap (w := w) (w' := w.drew) rfl).trans h2⟩
                split at hev
                · rename_i hv
                  rw [hv] at hra; simp only [VRel] at hra
                  split at hev
                  · rename_i hb
                    cases hev
                    exact hnil hra hb.1 hb.2
                  · cases hev
                · rename_i cs len perm hv
                  rw [hv] at hra; simp only [VRel] at hra
                  rcases hra with ⟨rfl, rfl, hno, hra⟩ | ⟨Ra, oa, ca, hae, hale, hIa, hperm⟩
                  · split at hev
                    · rename_i hb
                      obtain ⟨hb1, hb2, hb3⟩ := hb
                      cases perm with
                      | no => cases hev
                      | own p => exact absurd rfl (hno p)
                      | full =>
                        simp only [Nat.zero_add, List.nil_append, Option.some.injEq, Prod.mk.injEq] at hev hb2 hb3
                        obtain ⟨rfl, rfl⟩ := hev
                        exact hnil hra hb2 hb3
                    · cases hev
                  split at hev
                  · rename_i hb
                    obtain ⟨hb1, hb2, hb3⟩ := hb
                    obtain ⟨R2, off2, ov, h1, hov, hol, hocell⟩ := lookN_rel hs (n := len * i.size) (cs := cs) (va := .pointer (some ⟨Ra, oa, none⟩)) (a := .vref cs) (by simp only [VRel]; exact ⟨Ra, oa, rfl, hIa⟩) (lookN_all hb1)
                    simp only [Value.pointer.injEq, Option.some.injEq, Addr.mk.injEq, and_true] at h1
                    obtain ⟨rfl, rfl⟩ := h1
                    have hgrow : ∀ (s0 : St) (hs0 : Sim P ρ s0 w) (p0 : Nat), p0 < s0.pn → s0.cur p0 = len + n → ρ.pm (p0, len + n) = none → ca < len + n → OpOk P ρ w ((builtin .append #[t, t] o.type (Array.map (fun | .const _ => true | _ => false) #[a, x]) (Array.map e #[a, x])).run P w) (.vsl (cs ++ new) (len + n) (.own p0)) s0 := by
                      intro s0 hs0 p0 hp0 hc0 hn0 hlt
                      have hrun := run_append_grow (P := P) w t o.type el i zv hu hi hzz ⟨Ra, oa, none⟩ len ca ov hol hocell ⟨R, off, none⟩ n xc nv hnl hncell (by omega) (by omega) (growslice_fits (by omega) (by omega))
                      have hge := grownCap_ge w (len + n) ca el
                      obtain ⟨ρ', h1, h2, h3⟩ := Sim.grown (p := p0) (w' := w.drew.alloc (.cells (ov.toArray ++ nv.toArray ++ Builtin.zeroCells zv.cells (grownCap w (len + n) ca el - (len + n))) el)) (Sim.of_heap (w' := w.drew) hs0 rfl) (cap := grownCap w (len + n) ca el) (all := ov ++ nv) (rest := (Builtin.zeroCells zv.cells (grownCap w (len + n) ca el - (len + n))).toList) (sz := i.size) (need := len + n) (by simp) (by simp [hol, hnl, Nat.add_mul])
                        (by simp only [Array.size_append, List.size_toArray, size_zeroCells, hol, hnl, hzsize, ← Nat.add_mul]; congr 1; omega) hp0 hc0 hn0 (by omega) hge (hov.append hnv) rfl
                      exact ⟨_, _, _, ρ', hbody (by rw [hae, hxe]; exact hrun), .inl rfl, h3, h1, (Fwd.of_heap (w := w) (w' := w.drew) rfl).trans h2⟩
                    cases perm with
                    | no => cases hev
                    | full =>
                      cases hev
                      simp only [PermOk] at hperm
                      exact hgrow (s.fresh (len + n)) (hs.fresh _) s.pn (by simp) (by simp [St.fresh_cur]) (hs.pm_new (Nat.le_refl _)) (by omega)
                    | own p =>
                      simp only at hev
                      split at hev
                      · rename_i hp
                        obtain ⟨hp, hpl⟩ := hp
                        cases hev
                        obtain ⟨hl0, ho0, sz, hclen, hpm⟩ := hperm
                        subst ho0
                        have hsz' : sz = i.size := Nat.eq_of_mul_eq_mul_left hl0 (by omega)
                        subst hsz'
                        have hlv : s.lives (p, len) := ⟨hp, hl0⟩
                        have hdead := hs.dead (p := p) (k := len + n) (by omega)
                        have hpn : ρ.pm (p, len + n) = none := hs.pm_ver (by simp only; omega)
                        by_cases hroom : len + n ≤ ca
                        · obtain ⟨cur, el', hg, hcs, hfree⟩ := hs.room (p, len) _ hlv hpm
                          simp only [Nat.zero_add] at hg hcs hfree
                          have hmul : (len + n) * i.size ≤ ca * i.size := Nat.mul_le_mul_right _ hroom
                          rw [Nat.add_mul] at hmul
                          have hfit : len * i.size + nv.length ≤ cur.size := by omega
                          have hrun := run_append_in (P := P) (w := w) t o.type el el' i hu hi Ra len ca cur hg ⟨R, off, none⟩ n xc nv hnl hncell hnv.one hroom hfit
                          have hap : ∀ q r, (s.grow p (len + n)).lives q → ρ.pm q = some r → r.R ≠ Ra := by
                            intro q r hq hr he
                            obtain ⟨q1, q2⟩ := hq
                            rw [St.grow_cur] at q1
                            split at q1
                            · rename_i hqp
                              have hqe : q = (p, len + n) := by cases q; simp only at hqp q1; rw [hqp, q1]
                              rw [hqe, hpn] at hr; cases hr
                            · rename_i hqp
                              have := hs.apart q (p, len) r _ ⟨q1, q2⟩ hlv hr hpm he
                              rw [this] at hqp; exact hqp rfl
                          have hnm : ∀ b, ρ.m b ≠ some Ra := fun b => hs.pnm (p, len) _ b hpm
                          have h1 := hdead.fixIn (news := nv) (lo := len * i.size) (w' := w.setRow Ra (cur.toList.take (len * i.size) ++ nv ++ cur.toList.drop (len * i.size + nv.length)).toArray) hnm hg hfit hfree hap (setRow_put hg)
                          have hle : ρ.le (ρ.fix Ra (len * i.size) nv) := Rho.le_fix fun off h _ => hfree off h
                          have hlt : Ra < w.heap.size := (Array.getElem?_eq_some_iff.1 hg).1
                          have h2 := h1.roomNew (k := (p, len + n)) (r := ⟨Ra, 0, len + n, ca, i.size⟩) hpl hpn (by simp [St.grow_cur]) (by rw [setRow_put hg]; simpa using hlt) hnm
                            ⟨_, el', setRow_heap w Ra cur _ el' (0, 0) hg, by simp; omega, fun off ho => by
                              simp only [Nat.zero_add, Nat.add_mul] at ho
                              simp only [Rho.fix]
                              rw [if_neg (by omega)]
                              exact hfree off (by omega)⟩ hap
                          have hle2 : (ρ.fix Ra (len * i.size) nv).le ((ρ.fix Ra (len * i.size) nv).rm (p, len + n) ⟨Ra, 0, len + n, ca, i.size⟩) := Rho.le_rm hpn
                          refine ⟨_, _, _, _, hbody (by rw [hae, hxe]; exact hrun), .inl rfl, ?_, h2, ⟨hle.trans hle2, fun Q hQ => ?_, by rw [setRow_put hg]; simp, fun Q hQ hQt => ?_, rfl, rfl⟩⟩
                          · simp only [VRel]
                            refine .inr ⟨Ra, 0, ca, rfl, hroom, IRel.of_get fun j u hj => ?_, by omega, rfl, i.size, ?_, by simp [Rho.rm]⟩
                            · rcases Nat.lt_or_ge j cs.length with hjc | hjc
                              · rw [List.getElem?_append_left hjc] at hj
                                obtain ⟨q, h3, h4, h5⟩ := hIa.get j u hj
                                exact ⟨q, (hle.trans hle2).I _ _ _ h3, h4, VRel.mono (hle.trans hle2) _ _ h5⟩
                              · rw [List.getElem?_append_right hjc] at hj
                                obtain ⟨q, h3, h4, h5⟩ := hnv.get _ u hj
                                have hq := (List.getElem?_eq_some_iff.1 h3).1
                                refine ⟨q, ?_, h4, VRel.mono (hle.trans hle2) _ _ h5⟩
                                show (if Ra = Ra ∧ len * i.size ≤ 0 + j ∧ 0 + j < len * i.size + nv.length then nv[0 + j - len * i.size]? else _) = some q
                                rw [if_pos ⟨rfl, by omega, by omega⟩, Nat.zero_add, ← hb1]
                                exact h3
                            · have := hnv.length; simp [Nat.add_mul]; omega
                          · rcases hQ with ⟨b, hb⟩ | ⟨q, r, hq, rfl⟩
                            · exact .inl (.inl ⟨b, hb⟩)
                            · simp only [Rho.rm] at hq
                              split at hq
                              · cases hq; exact .inl (.inr ⟨_, _, hpm, rfl⟩)
                              · exact .inl (.inr ⟨q, r, hq, rfl⟩)
                          · have : Q ≠ Ra := fun e' => hQt (.inr ⟨_, _, hpm, e'.symm⟩)
                            exact setRow_other w Ra Q _ this
                        · exact hgrow _ hdead p hpl (by simp [St.grow_cur]) hpn (by omega)
                      · cases hev
                  · cases hev
                · cases hev
      · cases hc
  · cases hc
end
end Go.Proofs.Ytlhfeiacigmliaa

/- Structs and arrays held against each other; maps. -/
namespace Go.Proofs.Ytlhfeiacigmliaa
open Go

section
variable {P : Program} {ρ : Rho} {s : St} {w : World} {fr : List AVal} {e : Operand → Value}

theorem run_eqPlain {t : TypeId} {k : Nat} (hk : plainK P t = some k) {x y : AVal} {vx vy : Value} (hx : VRel ρ x vx) (hy : VRel ρ y vy) {b : Bool} (h : eqCell k x y = some b) (d : Nat) (w : World) :
    (Op.equalIn (d + 1) t vx vy).run P w = .ok b w := by
  unfold plainK at hk
  unfold eqCell at h
  split at hk <;> cases hk <;> rename_i hu <;> split at h
  · simp only [VRel] at hx hy
    split at h
    · rename_i hkk; subst hkk; cases h; subst hx; subst hy; exact run_equalIn_int w d t _ _ _ _ hu
    · cases h
  · rename_i heq; cases heq
  · rename_i heq; cases heq
  · cases h
  · rename_i heq; cases heq
  · simp only [VRel] at hx hy
    cases h; subst hx; subst hy; exact run_equalIn_bool' w d t _ _ hu
  · rename_i heq; cases heq
  · cases h
  · rename_i heq; cases heq
  · rename_i heq; cases heq
  · simp only [VRel] at hx hy
    cases h; subst hx; subst hy; rw [beq_toListBytes]; exact run_equalIn_string w d t _ _ hu
  · cases h

theorem plain_agg {t : TypeId} {k : Nat} (hk : plainK P t = some k) : aggT P t = some false := by
  unfold plainK at hk
  split at hk <;> cases hk <;> rename_i hu <;> simp [aggT, hu]

theorem run_part_cell {t : TypeId} {k : Nat} (hk : plainK P t = some k) {vs : Array Value} {off : Nat} {v : Value} (h : vs.toList[off]? = some v) (w : World) : (part t vs off).run P w = .ok v w := by
  have : vs[off]? = some v := by rw [← Array.getElem?_toList]; exact h
  simp [part, run_isAgg (plain_agg hk), this]

theorem run_eqFields {xv yv : Array Value} {xs ys : List AVal} (hx : CRel ρ xs xv.toList) (hy : CRel ρ ys yv.toList) (d : Nat) :
    ∀ (fs : List Field) (k : Nat) (kinds : List Nat) (b : Bool), fs.map (·.offset) = List.range' k fs.length → (∀ f ∈ fs, f.name ≠ "_") → fs.mapM (fun f => plainK P f.type) = some kinds →
      eqCells kinds (xs.drop k) (ys.drop k) = some b → (Op.eqFields (d + 1) xv yv fs).run P w = .ok b w
  | [], k, kinds, b, _, _, hm, h => by
    simp at hm; subst hm
    unfold eqCells at h
    split at h
    · cases h; simp [Op.eqFields]
    · simp_all
    · cases h
  | f :: fs, k, kinds, b, ho, hn, hm, h => by
    simp only [List.mapM_cons, Option.pure_def, Option.bind_eq_bind, Option.bind_eq_some_iff, Option.some.injEq] at hm
    obtain ⟨q, hq, kinds', hk', rfl⟩ := hm
    simp only [List.map_cons, List.length_cons, List.range'_succ, List.cons.injEq] at ho
    obtain ⟨ho1, ho2⟩ := ho
    have hname : f.name ≠ "_" := hn f (by simp)
    cases hdx : xs.drop k with
    | nil => rw [hdx] at h; simp [eqCells] at h
    | cons xa xr =>
      cases hdy : ys.drop k with
      | nil => rw [hdx, hdy] at h; simp [eqCells] at h
      | cons ya yr =>
        rw [hdx, hdy] at h
        simp only [eqCells] at h
        split at h
        · rename_i a b' h1 h2
          cases h
          have hxk : xs[k]? = some xa := by rw [← Nat.add_zero k, ← List.getElem?_drop, hdx]; rfl
          have hyk : ys[k]? = some ya := by rw [← Nat.add_zero k, ← List.getElem?_drop, hdy]; rfl
          have hxr : xs.drop (k + 1) = xr := by rw [← List.drop_drop, hdx]; rfl
          have hyr : ys.drop (k + 1) = yr := by rw [← List.drop_drop, hdy]; rfl
          obtain ⟨u, hu1, _, hu3⟩ := hx.get k xa hxk
          obtain ⟨v, hv1, _, hv3⟩ := hy.get k ya hyk
          rw [← ho1] at hu1 hv1
          have ih := run_eqFields hx hy d fs (k + 1) kinds' b' ho2 (fun g hg => hn g (by simp [hg])) hk' (by rw [hxr, hyr]; exact h2)
          simp only [Op.eqFields, ne_eq, hname, not_false_eq_true, if_true, Sem.run_bind, run_part_cell hq hu1, run_part_cell hq hv1, Result.andThen_ok, run_eqPlain hq hu3 hv3 h1]
          cases a
          · simp
          · simp [ih]
        · cases h

theorem run_eqItems {xv yv : Array Value} {xs ys : List AVal} (hx : CRel ρ xs xv.toList) (hy : CRel ρ ys yv.toList) (d : Nat) {el : TypeId} {q : Nat} (hq : plainK P el = some q) :
    ∀ (n k : Nat) (b : Bool), eqCells (List.replicate n q) (xs.drop k) (ys.drop k) = some b → (Op.eqItems (d + 1) el 1 xv yv (List.range' k n)).run P w = .ok b w
  | 0, k, b, h => by
    simp only [List.replicate] at h
    unfold eqCells at h
    split at h
    · cases h; simp [Op.eqItems]
    · simp_all
    · cases h
  | n + 1, k, b, h => by
    simp only [List.replicate_succ] at h
    cases hdx : xs.drop k with
    | nil => rw [hdx] at h; simp [eqCells] at h
    | cons xa xr =>
      cases hdy : ys.drop k with
      | nil => rw [hdx, hdy] at h; simp [eqCells] at h
      | cons ya yr =>
        rw [hdx, hdy] at h
        simp only [eqCells] at h
        split at h
        · rename_i a b' h1 h2
          cases h
          have hxk : xs[k]? = some xa := by rw [← Nat.add_zero k, ← List.getElem?_drop, hdx]; rfl
          have hyk : ys[k]? = some ya := by rw [← Nat.add_zero k, ← List.getElem?_drop, hdy]; rfl
          have hxr : xs.drop (k + 1) = xr := by rw [← List.drop_drop, hdx]; rfl
          have hyr : ys.drop (k + 1) = yr := by rw [← List.drop_drop, hdy]; rfl
          obtain ⟨u, hu1, _, hu3⟩ := hx.get k xa hxk
          obtain ⟨v, hv1, _, hv3⟩ := hy.get k ya hyk
          have ih := run_eqItems hx hy d hq n (k + 1) b' (by rw [hxr, hyr]; exact h2)
          simp only [List.range'_succ, Op.eqItems, Nat.mul_one, Sem.run_bind, run_part_cell hq hu1, run_part_cell hq hv1, Result.andThen_ok, run_eqPlain hq hu3 hv3 h1]
          cases a
          · simp
          · simp [ih]
        · cases h

/-- Two values of a flat type. -/
theorem run_eqFlat {t : TypeId} {kinds : List Nat} (ht : flatT P t = some kinds) {xv yv : Array Value} {xs ys : List AVal} (hx : CRel ρ xs xv.toList) (hy : CRel ρ ys yv.toList) {b : Bool} (h : eqCells kinds xs ys = some b) (d : Nat) :
    (Op.equalIn (d + 2) t (.agg xv) (.agg yv)).run P w = .ok b w ∧ P.eqGuardType P.depth t = false := by
  unfold flatT at ht
  split at ht
  · rename_i fs hu
    split at ht
    · rename_i hc
      simp only [Bool.and_eq_true, Bool.not_eq_true', beq_iff_eq, List.all_eq_true, bne_iff_ne] at hc
      obtain ⟨⟨⟨h1, h2⟩, h3⟩, h4⟩ := hc
      refine ⟨?_, h2⟩
      have hf : P.fieldsOf t = fs := by unfold Program.fieldsOf; rw [hu]
      rw [run_equalIn_struct w (d + 1) t xv yv (by rw [hf]; exact hu) h1, hf]
      exact run_eqFields hx hy d fs.toList 0 kinds b (by rw [h4, List.range_eq_range']; simp) h3 ht (by simpa using h)
    · cases ht
  · rename_i n el hu
    split at ht
    · rename_i hc
      simp only [Bool.and_eq_true, Bool.not_eq_true', beq_iff_eq] at hc
      obtain ⟨h2, h3⟩ := hc
      simp only [Option.map_eq_some_iff] at ht
      obtain ⟨q, hq, rfl⟩ := ht
      refine ⟨?_, h2⟩
      unfold sizeT at h3
      simp only [Option.map_eq_some_iff] at h3
      obtain ⟨i, hi, hi1⟩ := h3
      have hcell : P.cellsOf el = 1 := by simp [Program.cellsOf, hi, hi1]
      rw [run_equalIn_array w (d + 1) xv yv hu hi, hcell, List.range_eq_range']
      exact run_eqItems hx hy d hq n 0 b (by simpa using h)
    · cases ht
  · cases ht

theorem ok_eqagg (hs : Sim P ρ s w) {op : BinOp} {t yt : TypeId} {x y : Operand} {x' y' : AOpd} (hx : HOp ρ fr e x) (hy : HOp ρ fr e y) (hcx : cOpd x = some x') (hcy : cOpd y = some y')
    (hop : op = .eql ∨ op = .neq) {kinds : List Nat} (ht : flatT P t = some kinds)
    {v : AVal} {s' : St} (H : Han) (hev : evalOp H (.eqagg (op = .neq) kinds x' y') fr s = some (v, s')) (o : Oper) (ho : o.op = .binOp op t x y yt) : OpOk P ρ w ((execOp e o).run P w) v s' := by
  have h1 := hx x' hcx
  have h2 := hy y' hcy
  simp only [evalOp] at hev
  split at hev
  · rename_i xs ys h3 h4
    simp only [Option.map_eq_some_iff, Prod.mk.injEq] at hev
    obtain ⟨b, hb, rfl, rfl⟩ := hev
    rw [h3] at h1; rw [h4] at h2
    simp only [VRel] at h1 h2
    obtain ⟨xv, hxe, hxr⟩ := h1
    obtain ⟨yv, hye, hyr⟩ := h2
    obtain ⟨h5, h6⟩ := run_eqFlat (P := P) (w := w) ht hxr hyr hb 9998
    have he : (Op.equal t (.agg xv) (.agg yv)).run P w = .ok b w := h5
    have hg : (eqGuard op t x y (.agg xv) (.agg yv)).run P w = .ok () w := by
      unfold eqGuard
      rcases hop with rfl | rfl <;> simp [h6]
    have hb1 : binOp .eql t (.agg xv) (.agg yv) = (do pure (.bool (← Op.equal t (.agg xv) (.agg yv)))) := rfl
    have hb2 : binOp .neq t (.agg xv) (.agg yv) = (do pure (.bool (!(← Op.equal t (.agg xv) (.agg yv))))) := rfl
    rcases hop with rfl | rfl
    · exact OpOk.same (v' := .bool b) hs (by simp [execOp, ho, hxe, hye, hg, hb1, he]) (by simp [VRel])
    · exact OpOk.same (v' := .bool !b) hs (by simp [execOp, ho, hxe, hye, hg, hb2, he]) (by simp [VRel])
  · cases hev
end
end Go.Proofs.Ytlhfeiacigmliaa
