/- The value-level engine, third part: reading memory. -/
import Derived.Test.YtclljpdcpcolpaaEngB
namespace Go.Proofs.Ytclljpdcpcolpaa
open Go Go.RowKit

def retype (ty : Ty) (t : TypeId) (x : VV) : VV :=
  match x with
  | .nl _ => match ty t with
    | some ⟨.sl e, _, _, _⟩ => .nl e
    | _ => x
  | x => x

def vPick (c : Bool) (x y : VV) : VV :=
  match x, y with
  | .bool a, .bool b => .bool (cond c a b)
  | .int k a, .int k' b => if k = k' then .int k (cond c a b) else cond c x y
  | x, y => cond c x y

def vUn (op : UnOp) (x : VV) : Option VV :=
  match op, x with
  | .neg, .int k n => some (.int k (k.wrap (0 - n)))
  | .not, .bool b => some (.bool (!b))
  | _, _ => none

def intOfT (ty : Ty) (t : TypeId) : Option IntKind :=
  match ty t with
  | some ⟨.it k, _, _, _⟩ => some k
  | _ => none

def isStr (ty : Ty) (t : TypeId) : Bool :=
  match ty t with
  | some ⟨.ss, _, _, _⟩ => true
  | _ => false
def isSl (ty : Ty) (t : TypeId) : Bool :=
  match ty t with
  | some ⟨.sl _, _, _, _⟩ => true
  | _ => false

/-- The cells of a row, from j on, n of them. -/
def rowVV (row : List PT) (n : Nat) : Option (List VV) :=
  let r := (row.take n).map PT.vv
  if r.length = n then some r else none

def plainCell : PT → Bool
  | .list _ _ | .hole => false
  | _ => true

def vLoad (ty : Ty) (s : St) (t : TypeId) (x : VV) : Option VV :=
  match ty t with
  | none => none
  | some d =>
    let cells : Option (List VV) :=
      match x with
      | .fp row => rowVV row d.size
      | .bp T j => match s.H T with
        | .box cs => let r := (cs.drop j).take d.size; if r.length = d.size then some r else none
        | _ => none
      | .np T i j => match s.H T with
        | .root _ rows => match rows[i]? with
          | some r => if ((r.drop j).take d.size).all plainCell then rowVV (r.drop j) d.size else none
          | none => none
        | _ => none
      | _ => none
    match cells with
    | none => none
    | some cs => if d.d.isAgg then some (.agg cs) else match cs with
      | [c] => some c
      | _ => none

def fieldOf (ty : Ty) (t : TypeId) (f : Nat) : Option (Nat × TypeId) :=
  match ty t with
  | some ⟨.st fs, _, _, _⟩ => fs[f]?
  | _ => none
def sizeT (ty : Ty) (t : TypeId) : Nat :=
  match ty t with
  | some d => d.size
  | none => 0

def vFieldAddr (ty : Ty) (s : St) (t : TypeId) (x : VV) (f : Nat) : Option VV :=
  match fieldOf ty t f with
  | some (off, ft) =>
    if sizeT ty ft = 0 then none else
    match x with
    | .fp row => some (.fp (row.drop off))
    | .bp T j => if (s.H T).live then some (.bp T (j + off)) else none
    | .np T i j => if (s.H T).isRoot then some (.np T i (j + off)) else none
    | _ => none
  | none => none

def vPart (ty : Ty) (ft : TypeId) (vs : List VV) (off : Nat) : Option VV :=
  match ty ft with
  | some d => if d.d.isAgg then (let r := (vs.drop off).take d.size; if r.length = d.size then some (.agg r) else none) else vs[off]?
  | none => none

def vField (ty : Ty) (t : TypeId) (x : VV) (f : Nat) : Option VV :=
  match fieldOf ty t f, x with
  | some (off, ft), .agg vs => vPart ty ft vs off
  | _, _ => none

def vIndexAddr (ty : Ty) (s : St) (t : TypeId) (x i : VV) : Option VV :=
  match ty t, i with
  | some ⟨.sl e, _, _, _⟩, .int _ n =>
    if sizeT ty e = 0 then none else
    match x with
    | .fr e' rows => if 0 ≤ n ∧ n < rows.length ∧ e' = e then some (.fp (rows[n.toNat]?.getD [])) else none
    | .rf T m => match s.H T with
      | .root e' rows => if 0 ≤ n ∧ n < m ∧ m ≤ rows.length ∧ e' = e then some (.np T n.toNat 0) else none
      | _ => none
    | _ => none
  | some ⟨.ar len e, _, _, _⟩, .int _ n =>
    if 0 ≤ n ∧ n < len ∧ sizeT ty e ≠ 0 then
      match x with
      | .fp row => some (.fp (row.drop (n.toNat * sizeT ty e)))
      | .bp T j => if (s.H T).live then some (.bp T (j + n.toNat * sizeT ty e)) else none
      | .np T i j => if (s.H T).isRoot then some (.np T i (j + n.toNat * sizeT ty e)) else none
      | _ => none
    else none
  | _, _ => none

def vIndex (ty : Ty) (t : TypeId) (x i : VV) : Option VV :=
  match x, i with
  | .str b, .int _ n => if 0 ≤ n ∧ isStr ty t = true then (match b[n.toNat]? with | some c => some (.int .u8 c.toNat) | none => none) else none
  | .agg vs, .int _ n => match ty t with
    | some ⟨.ar len e, _, _, _⟩ => if 0 ≤ n ∧ n < len then vPart ty e vs (n.toNat * sizeT ty e) else none
    | _ => none
  | _, _ => none

def vExtract (x : VV) (i : Nat) : Option VV :=
  match x with
  | .tup vs => vs[i]?
  | _ => none

def bound (lo : Option VV) (d : Nat) : Option Nat :=
  match lo with
  | none => some d
  | some (.int _ n) => if 0 ≤ n then some n.toNat else none
  | _ => none

def vSlice (ty : Ty) (s : St) (t : TypeId) (x : VV) (lo hi : Option VV) : Option VV :=
  match x with
  | .str b => match bound lo 0, bound hi b.size with
    | some l, some h => if l ≤ h ∧ h ≤ b.size ∧ isStr ty t = true then some (.str (b.extract l h)) else none
    | _, _ => none
  | .fr e rows => match ty t with
    | some ⟨.sl e', _, _, _⟩ => match bound lo 0, bound hi rows.length with
      | some l, some h => if l ≤ h ∧ h ≤ rows.length ∧ e' = e ∧ sizeT ty e ≠ 0 then some (.fr e ((rows.take h).drop l)) else none
      | _, _ => none
    | _ => none
  | .rf T n => match ty t with
    | some ⟨.sl e, _, _, _⟩ => match s.H T with
      | .root _ rows => match bound lo 0, bound hi n with
        | some 0, some h => if h ≤ n ∧ n ≤ rows.length ∧ sizeT ty e ≠ 0 then some (.rf T h) else none
        | _, _ => none
      | _ => none
    | _ => none
  | .bp T j => match ty t with
    | some ⟨.ar len e, _, _, _⟩ => match lo, hi with
      | none, none => if (s.H T).live = true ∧ sizeT ty e = 1 ∧ 0 < len ∧ len ≤ 1048576 then some (.bs T j len e) else none
      | _, _ => none
    | _ => none
  | _ => none

def vLen (ty : Ty) (s : St) (t : TypeId) (x : VV) : Option VV :=
  match x with
  | .str b => if isStr ty t = true then some (.int .i64 b.size) else none
  | .fr _ rows => if isSl ty t = true then some (.int .i64 rows.length) else none
  | .nl _ => if isSl ty t = true then some (.int .i64 0) else none
  | .rf T n => if isSl ty t = true then (match s.H T with | .root _ rows => if n ≤ rows.length then some (.int .i64 n) else none | _ => none) else none
  | _ => none

def vMin (x y : VV) : Option VV :=
  match x, y with
  | .int k a, .int _ b => some (.int k (if b < a then b else a))
  | _, _ => none
def vMax (x y : VV) : Option VV :=
  match x, y with
  | .int k a, .int _ b => some (.int k (if a < b then b else a))
  | _, _ => none

def vBuiltin (ty : Ty) (s : St) (b : Builtin) (xs : List VV) (ts : List TypeId) : Option VV :=
  match b with
  | .len => match xs, ts with
    | [x], [t] => vLen ty s t x
    | _, _ => none
  | .min => match xs with
    | [x, y] => vMin x y
    | _ => none
  | .max => match xs with
    | [x, y] => vMax x y
    | _ => none
  | _ => none

def capOk : VV → Bool
  | .bp _ _ | .fp _ => true
  | _ => false
def vMakeFunc (f : FuncId) (first : Nat) (caps : List VV) : Option VV := if first = 0 ∧ caps.all capOk = true then some (.clo f caps) else none

/-- What an operation that only computes gives. -/
def vval (ty : Ty) (s : St) (o : Oper) : Option VV :=
  match o.op with
  | .move x | .assign x => some (retype ty o.type (ev s x))
  | .pick c x y => match ev s c with
    | .bool b => some (vPick b (ev s x) (ev s y))
    | _ => none
  | .binOp op t x y _ => vBin op (isBo ty t) (ev s x) (ev s y)
  | .unOp op _ x => vUn op (ev s x)
  | .convert src dst x => match intOfT ty src, intOfT ty dst, ev s x with
    | some _, some k, .int _ n => some (.int k (k.wrap n))
    | _, _, _ => none
  | .load t x => vLoad ty s t (ev s x)
  | .fieldAddr t x f => vFieldAddr ty s t (ev s x) f
  | .field t x f => vField ty t (ev s x) f
  | .indexAddr t x i => vIndexAddr ty s t (ev s x) (ev s i)
  | .index t x i => vIndex ty t (ev s x) (ev s i)
  | .extract x i => vExtract (ev s x) i
  | .slice t x lo hi none => vSlice ty s t (ev s x) (lo.map (ev s)) (hi.map (ev s))
  | .nilCheck x => match ev s x with
    | .bp T j => if (s.H T).live then some (.bp T j) else none
    | .fp r => some (.fp r)
    | .np T i j => if (s.H T).isRoot then some (.np T i j) else none
    | _ => none
  | .makeFunc (.func f) first captured => vMakeFunc f first.size (captured.toList.map (ev s))
  | .call c => match c.callee with
    | .builtin b => vBuiltin ty s b (c.args.toList.map (ev s)) c.argTypes.toList
    | _ => none
  | _ => none
end Go.Proofs.Ytclljpdcpcolpaa
