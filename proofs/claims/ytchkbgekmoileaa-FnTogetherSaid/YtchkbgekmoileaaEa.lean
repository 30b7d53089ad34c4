/- The value-level engine, first bundle: values, state, what operations that give a value do, memory. -/
import Derived.WalkKit
import Derived.Maps.AppendAt
import Derived.Laws.MakeOwn
import Derived.Laws.Tables
import Derived.Laws.CopyRow
import Derived.Laws.Rows
import Derived.Laws.StructEq
/- The value-level engine, first part: pure trees, values, state, the relation between a state and a world. No program in sight. -/
namespace Go.Proofs.Ytchkbgekmoileaa
open Go Go.RowKit

/-- A path into a tree: at each step the row and the cell. -/
abbrev Path := List (Nat × Nat)

/-- A pure tree: one cell's content by value. -/
inductive PT where
  | int (k : IntKind) (n : Int)
  | bool (b : Bool)
  | str (s : ByteArray)
  | list (e : TypeId) (rows : List (List PT))
  | ref (T n : Nat)
  | fz (e : TypeId) (rows : List (List PT))
  | hole

/-- A value of the engine. -/
inductive VV where
  | int (k : IntKind) (n : Int)
  | bool (b : Bool)
  | str (s : ByteArray)
  | nl (e : TypeId)
  | fr (e : TypeId) (rows : List (List PT))
  | rf (T n : Nat)
  | bp (T j : Nat)
  | np (T i j : Nat)
  | bs (T j n : Nat) (e : TypeId)
  | fp (row : List PT)
  | agg (vs : List VV)
  | tup (vs : List VV)
  | err (b : Bool)
  | clo (f : FuncId) (caps : List VV)
  | any

/-- What a token stands for: nothing, a variable in memory, a slice of the call's own with all that it leads to. -/
inductive Ent where
  | dead
  | box (cs : List VV)
  | root (e : TypeId) (rows : List (List PT))

abbrev Heap := Nat → Ent

def updH (t : Nat) (e : Ent) (H : Heap) : Heap := fun x => if x = t then e else H x
def updV (t : Nat) (v : VV) (f : Nat → VV) : Nat → VV := fun x => if x = t then v else f x
theorem updH_same (t : Nat) (e : Ent) (H : Heap) : updH t e H t = e := by simp [updH]
theorem updH_ne {t x : Nat} (e : Ent) (H : Heap) (h : x ≠ t) : updH t e H x = H x := by simp [updH, h]
theorem updV_same (t : Nat) (e : VV) (H : Nat → VV) : updV t e H t = e := by simp [updV]
theorem updV_ne {t x : Nat} (e : VV) (H : Nat → VV) (h : x ≠ t) : updV t e H x = H x := by simp [updV, h]

structure St where
  tm : Nat → VV
  H : Heap
  nx : Nat
  N : Nat
  lim : Option Nat

/-- A token that nobody has seen. -/
def St.fresh (s : St) (T : Nat) : Prop := s.nx ≤ T ∧ (match s.lim with | none => True | some m => T < m)

def St.put (s : St) (d : Nat) (v : VV) : St := { s with tm := updV d v s.tm }

/-- The sub-slice at a path. -/
def At : Path → PT → Option (TypeId × List (List PT))
  | [], .list e rows => some (e, rows)
  | (i, j) :: p, .list _ rows => ((rows[i]?.getD [])[j]?).bind (At p)
  | _, _ => none

/-- What the relation bears besides the state: the header of each slice, the place of each variable, the owner of each block and cell. -/
structure Gh where
  hd : Nat → Path → Value
  bx : Nat → Nat × Nat
  own : Nat → Option (Nat × Path)
  ob : Nat → Nat → Option (Nat × Nat)
  sn : Nat → Bool

def Ent.live : Ent → Bool
  | .dead => false
  | _ => true
def Ent.isRoot : Ent → Bool
  | .root .. => true
  | _ => false

/-- The tokens that were there are what they were, or are gone. -/
structure HLe (g : Gh) (H : Heap) (g' : Gh) (H' : Heap) : Prop where
  sn : ∀ T, g.sn T = true → g'.sn T = true
  root : ∀ T e rows', g.sn T = true → H' T = .root e rows' → ∃ rows, H T = .root e rows
  live : ∀ T, g.sn T = true → (H' T).live = true → (H T).live = true
  hd : ∀ T, g.sn T = true → (H' T).isRoot = true → g'.hd T [] = g.hd T []
  bx : ∀ T, g.sn T = true → (H' T).live = true → g'.bx T = g.bx T

/-- The world in which the call began, and the cells that were handed to it. -/
structure Env where
  w0 : World
  own : Nat → Nat → Prop
  pin : Gh → Heap → Prop
  pinOk : ∀ g H g' H', HLe g H g' H' → pin g H → pin g' H'
  hid : Nat → Nat → Prop
  hidOk : ∀ b o, own b o → hid b o

/-- What may be read and does not change. -/
def Env.rd (E : Env) (b o : Nat) (u : Value) : Prop := b < E.w0.heap.size ∧ ¬ E.hid b o ∧ E.w0.cell? ⟨b, o, none⟩ = some u

def cutv (n : Nat) : Value → Value
  | .slice a _ c => .slice a n c
  | v => v

section
variable (P : Program)

def fcell (c : PT) (h u : Value) : Prop :=
  match c with
  | .int k n => u = .int k n
  | .bool b => u = .bool b
  | .str s => u = .string s
  | .list _ _ => u = h
  | _ => False

/-- A slice that came in: its header and its cells. -/
def RdNode (E : Env) (e : TypeId) (rows : List (List PT)) (ch : Nat → Nat → Value) (v : Value) : Prop :=
  ∃ A cap, v = .slice A rows.length cap ∧ rows.length ≤ cap ∧ cap ≤ maxLen ∧
    (rows = [] ∨ ∃ b o, A = some ⟨b, o, none⟩ ∧ ∀ i r, rows[i]? = some r → r.length = P.cellsOf e ∧
      ∀ j c, r[j]? = some c → ∃ u, E.rd b (o + (i * P.cellsOf e + j)) u ∧ fcell c (ch i j) u)

/-- A value that came in reads as a tree. -/
def Rd (E : Env) (x : PT) (v : Value) : Prop :=
  match x with
  | .int k n => v = .int k n
  | .bool b => v = .bool b
  | .str s => v = .string s
  | .list e rows => ∃ fh : Path → Value, fh [] = v ∧ ∀ p e' rows', At p (.list e rows) = some (e', rows') → RdNode P E e' rows' (fun i j => fh (p ++ [(i, j)])) (fh p)
  | _ => False

/-- What a function value has caught: a pointer. -/
def CapRel (E : Env) (H : Heap) (g : Gh) (x : VV) (v : Value) : Prop :=
  match x with
  | .bp T j => g.sn T = true ∧ v.oneCell' = true ∧ ((H T).live = true → v = .pointer (some ⟨(g.bx T).1, (g.bx T).2 + j, none⟩))
  | .fp row => ∃ b o, v = .pointer (some ⟨b, o, none⟩) ∧ ∀ j c, row[j]? = some c → ∃ u, E.rd b (o + j) u ∧ Rd P E c u
  | _ => False

/-- One cell's value. -/
def CRel (E : Env) (H : Heap) (g : Gh) (x : VV) (v : Value) : Prop :=
  match x with
  | .int k n => v = .int k n
  | .bool b => v = .bool b
  | .str s => v = .string s
  | .nl _ => v = .slice none 0 0
  | .fr e rows => Rd P E (.list e rows) v
  | .rf T n => g.sn T = true ∧ v.oneCell' = true ∧ ((H T).isRoot = true → v = cutv n (g.hd T []))
  | .bp T j => g.sn T = true ∧ v.oneCell' = true ∧ ((H T).live = true → v = .pointer (some ⟨(g.bx T).1, (g.bx T).2 + j, none⟩))
  | .np T i j => g.sn T = true ∧ v.oneCell' = true ∧ ∀ e rows, H T = .root e rows → ∃ b n c, g.hd T [] = .slice (some ⟨b, 0, none⟩) n c ∧ v = .pointer (some ⟨b, i * P.cellsOf e + j, none⟩)
  | .bs T j n e => g.sn T = true ∧ v.oneCell' = true ∧ (P.cellsOf e = 1 ∧ n ≤ maxLen) ∧ ((H T).live = true → v = .slice (some ⟨(g.bx T).1, (g.bx T).2 + j, none⟩) n n)
  | .fp row => ∃ b o, v = .pointer (some ⟨b, o, none⟩) ∧ ∀ j c, row[j]? = some c → ∃ u, E.rd b (o + j) u ∧ Rd P E c u
  | .err b => if b then ∃ t x, v = .iface t x else v = .nilIface
  | .clo f caps => ∃ cs : List Value, v = .func (.func f) #[] cs.toArray ∧ cs.length = caps.length ∧ ∀ (j : Nat) (c : VV) (u : Value), caps[j]? = some c → cs[j]? = some u → CapRel P E H g c u
  | .any => True
  | _ => False

/-- One cell, or the cells of a struct or an array. -/
def ARel (E : Env) (H : Heap) (g : Gh) (x : VV) (v : Value) : Prop :=
  match x with
  | .agg vs => ∃ cs : List Value, v = .agg cs.toArray ∧ cs.length = vs.length ∧ ∀ (j : Nat) (c : VV) (u : Value), vs[j]? = some c → cs[j]? = some u → CRel P E H g c u
  | x => CRel P E H g x v

def VRel (E : Env) (H : Heap) (g : Gh) (x : VV) (v : Value) : Prop :=
  match x with
  | .tup vs => ∃ cs : List Value, v = .tuple cs.toArray ∧ cs.length = vs.length ∧ ∀ (j : Nat) (c : VV) (u : Value), vs[j]? = some c → cs[j]? = some u → ARel P E H g c u
  | x => ARel P E H g x v

/-- A cell of a slice of the call's own. -/
def ocell (E : Env) (H : Heap) (g : Gh) (c : PT) (h u : Value) : Prop :=
  match c with
  | .int k n => u = .int k n
  | .bool b => u = .bool b
  | .str s => u = .string s
  | .list _ _ => u = h
  | .ref T n => g.sn T = true ∧ u.oneCell' = true ∧ ((H T).isRoot = true → u = cutv n (g.hd T []))
  | .fz e rows => Rd P E (.list e rows) u
  | .hole => True

def NodeOK (E : Env) (H : Heap) (g : Gh) (w : World) (T : Nat) (p : Path) (e : TypeId) (rows : List (List PT)) : Prop :=
  (g.hd T p = .slice none 0 0 ∧ rows = []) ∨
  ∃ b cap cur, g.hd T p = .slice (some ⟨b, 0, none⟩) rows.length cap ∧ g.own b = some (T, p) ∧ (E.w0.heap.size ≤ b ∨ ∀ o, E.own b o) ∧
    w.heap[b]? = some (.cells cur e (0, 0)) ∧ rows.length ≤ cap ∧ cap ≤ maxLen ∧ cur.size = cap * P.cellsOf e ∧
    ∀ i r, rows[i]? = some r → r.length = P.cellsOf e ∧ ∀ j c, r[j]? = some c → ∃ u, cur[i * P.cellsOf e + j]? = some u ∧ ocell P E H g c (g.hd T (p ++ [(i, j)])) u

def BoxOK (E : Env) (H : Heap) (g : Gh) (w : World) (T : Nat) (cs : List VV) : Prop :=
  ∃ cur e, w.heap[(g.bx T).1]? = some (.cells cur e (0, 0)) ∧ g.own (g.bx T).1 = none ∧
    ∀ j c, cs[j]? = some c → g.ob (g.bx T).1 ((g.bx T).2 + j) = some (T, j) ∧ (E.w0.heap.size ≤ (g.bx T).1 ∨ E.own (g.bx T).1 ((g.bx T).2 + j)) ∧
      ∃ u, cur[(g.bx T).2 + j]? = some u ∧ CRel P E H g c u

/-- What has not turned since the call began. -/
structure Frm (E : Env) (w : World) : Prop where
  os : w.os = E.w0.os
  tape : w.tape = E.w0.tape
  output : w.output = E.w0.output
  size : E.w0.heap.size ≤ w.heap.size
  cells : ∀ (b : Nat) (c : Array Value) (e : TypeId) (fz : Nat × Nat), E.w0.heap[b]? = some (Obj.cells c e fz) → ∃ c' : Array Value, w.heap[b]? = some (Obj.cells c' e fz) ∧ c'.size = c.size ∧ ∀ o : Nat, ¬ E.own b o → c'[o]? = c[o]?
  other : ∀ (b : Nat) (x : Obj), E.w0.heap[b]? = some x → (∀ c e fz, x ≠ Obj.cells c e fz) → w.heap[b]? = some x

structure HRel (E : Env) (g : Gh) (H : Heap) (w : World) : Prop where
  frm : Frm E w
  node : ∀ T e rows, H T = .root e rows → ∀ p e' rows', At p (.list e rows) = some (e', rows') → NodeOK P E H g w T p e' rows'
  box : ∀ T cs, H T = .box cs → BoxOK P E H g w T cs
  seen : ∀ T, (H T).live = true → g.sn T = true

structure Rel (E : Env) (g : Gh) (s : St) (a : Act) (w : World) : Prop where
  size : a.tmps.size = s.N
  defers : a.defers = []
  heap : HRel P E g s.H w
  fresh : ∀ T, s.fresh T → g.sn T = false
  tmps : ∀ t, VRel P E s.H g (s.tm t) (a.tmps.getD t undef)
  pin : E.pin g s.H

end
end Go.Proofs.Ytchkbgekmoileaa

/- The value-level engine, second part: the operations that only compute, and that the machine does the same. -/
namespace Go.Proofs.Ytchkbgekmoileaa
open Go Go.RowKit

inductive TyD where
  | sc
  | bo
  | sl (e : TypeId)
  | st (fs : List (Nat × TypeId))
  | ar (n : Nat) (e : TypeId)
  | it (k : IntKind)
  | ss

structure TyE where
  d : TyD
  size : Nat
  bytes : Nat
  zero : List VV

abbrev Ty := TypeId → Option TyE

def TyD.isAgg : TyD → Bool
  | .st _ | .ar .. => true
  | _ => false

def VV.const? : VV → Option Value
  | .int k n => some (.int k n)
  | .bool b => some (.bool b)
  | .str s => some (.string s)
  | .nl _ => some (.slice none 0 0)
  | _ => none

def tyD (P : Program) (t : TypeId) : TyD → Prop
  | .sl e => P.underlying t = some (.slice e)
  | .st fs => ∃ F, P.underlying t = some (.struct F) ∧ F.toList.map (fun f => (f.offset, f.type)) = fs
  | .ar n e => P.underlying t = some (.array n e)
  | .bo => P.underlying t = some .bool
  | .it k => P.underlying t = some (.int k)
  | .ss => P.underlying t = some .string
  | .sc => ∃ d, P.underlying t = some d ∧ (match d with | .struct _ | .array _ _ => False | _ => True)

/-- Values of this struct type may be compared. -/
def eqSt (P : Program) (t : TypeId) (F : Array Field) : Bool := !P.eqGuardType P.depth t && !P.stoodInHeld t && F.toList.all (fun f => f.name != "_")

structure TyOK1 (P : Program) (t : TypeId) (d : TyE) : Prop where
  desc : tyD P t d.d
  info : ∃ i, P.info? t = some i ∧ i.size = d.size ∧ i.bytes = d.bytes ∧ (d.zero = [] ∨ ∃ zv, i.zero = some zv ∧ zv.cells.toList.map some = d.zero.map VV.const?)
  eqs : ∀ F, P.underlying t = some (.struct F) → eqSt P t F = true

def TyOK (P : Program) (ty : Ty) : Prop := ∀ t d, ty t = some d → TyOK1 P t d

theorem TyOK1.cells {P : Program} {t : TypeId} {d : TyE} (h : TyOK1 P t d) : P.cellsOf t = d.size := by
  obtain ⟨i, hi, hs, _⟩ := h.info
  simp [Program.cellsOf, hi, hs]
theorem TyOK1.run_size {P : Program} {t : TypeId} {d : TyE} (h : TyOK1 P t d) (w : World) : (sizeOf t).run P w = .ok d.size w := by
  obtain ⟨i, hi, hs, _⟩ := h.info
  simp [sizeOf, typeInfo, hi, hs]
theorem TyOK1.run_agg {P : Program} {t : TypeId} {d : TyE} (h : TyOK1 P t d) (w : World) : (isAgg t).run P w = .ok d.d.isAgg w := by
  have hd := h.desc
  unfold isAgg
  cases hk : d.d with
  | sl e => rw [hk] at hd; simp [run_underlying hd, TyD.isAgg]
  | ar n e => rw [hk] at hd; simp [run_underlying hd, TyD.isAgg]
  | bo => rw [hk] at hd; simp [run_underlying hd, TyD.isAgg]
  | it k => rw [hk] at hd; simp [run_underlying hd, TyD.isAgg]
  | ss => rw [hk] at hd; simp [run_underlying hd, TyD.isAgg]
  | st fs => rw [hk] at hd; obtain ⟨F, hF, _⟩ := hd; simp [run_underlying hF, TyD.isAgg]
  | sc =>
    rw [hk] at hd
    obtain ⟨dd, hF, hn⟩ := hd
    cases dd <;> simp_all [run_underlying hF, TyD.isAgg]

def ofConst : Value → VV
  | .int k n => .int k n
  | .bool b => .bool b
  | .string s => .str s
  | .slice none 0 0 => .nl 0
  | .nilIface => .err false
  | _ => .any

def ev (s : St) : Operand → VV
  | .tmp t => s.tm t
  | .const v => ofConst v
  | .func f => .clo f []
  | _ => .any

def PT.vv : PT → VV
  | .int k n => .int k n
  | .bool b => .bool b
  | .str s => .str s
  | .list e rows => .fr e rows
  | .ref T n => .rf T n
  | .fz e rows => .fr e rows
  | .hole => .any

section
variable {P : Program} {E : Env} {g : Gh} {s : St} {a : Act} {w : World} {ty : Ty}

theorem vrel_any {H : Heap} {v : Value} : VRel P E H g .any v := trivial
theorem ofConst_rel {H : Heap} (v : Value) : VRel P E H g (ofConst v) v := by
  unfold ofConst
  split <;> first | rfl | trivial

theorem ev_rel (h : Rel P E g s a w) (x : Operand) : VRel P E s.H g (ev s x) (a.eval x) := by
  cases x with
  | tmp t => exact h.tmps t
  | const v => exact ofConst_rel v
  | global n => trivial
  | func f => exact ⟨[], rfl, rfl, fun j c u hc => by simp at hc⟩

theorem rd_vv {H : Heap} {c : PT} {u : Value} (h : Rd P E c u) : CRel P E H g c.vv u := by
  cases c <;> first | exact h | exact h.elim

/-- A frozen cell by its header and the ghost. -/
theorem put_rel (h : Rel P E g s a w) {d : Nat} {x : VV} {v : Value} (hd : d < s.N) (hx : VRel P E s.H g x v) : Rel P E g (s.put d x) (a.put (some d) v) w := by
  refine ⟨?_, h.defers, h.heap, h.fresh, fun t => ?_, h.pin⟩
  · simp [Act.put, St.put, h.size]
  · simp only [St.put, Act.put, updV]
    by_cases e : t = d
    · subst e
      have hl : t < a.tmps.size := by rw [h.size]; exact hd
      simpa [hl] using hx
    · simp only [e, if_false]
      have := h.tmps t
      rw [Array.getD_eq_getD_getElem?] at this ⊢
      rwa [Array.getElem?_setIfInBounds_ne (Ne.symm e)]

/-- The operation gives this value and leaves the world alone. -/
def Gives (P : Program) (E : Env) (g : Gh) (s : St) (a : Act) (w : World) (o : Oper) (x : VV) : Prop :=
  ∃ v, (execOp a.eval o).run P w = .ok (.value v) w ∧ VRel P E s.H g x v
end

def isBo (ty : Ty) (t : TypeId) : Bool :=
  match ty t with
  | some ⟨.bo, _, _, _⟩ => true
  | _ => false

theorem isBo_spec {P : Program} {ty : Ty} (hT : TyOK P ty) {t : TypeId} (h : isBo ty t = true) : P.underlying t = some .bool := by
  unfold isBo at h
  split at h
  · rename_i ht
    exact (hT t _ ht).desc
  · cases h

/-! ### Arithmetic -/
def vArith (op : BinOp) (k : IntKind) (a b : Int) : Option VV :=
  match op with
  | .add => some (.int k (k.wrap (a + b)))
  | .sub => some (.int k (k.wrap (a - b)))
  | .mul => some (.int k (k.wrap (a * b)))
  | .quo => if b = 0 then none else some (.int k (k.wrap (a.tdiv b)))
  | .rem => if b = 0 then none else some (.int k (a.tmod b))
  | .and => some (.int k (k.wrap ((BitVec.ofInt k.bits a &&& BitVec.ofInt k.bits b).toNat)))
  | .or => some (.int k (k.wrap ((BitVec.ofInt k.bits a ||| BitVec.ofInt k.bits b).toNat)))
  | .xor => some (.int k (k.wrap ((BitVec.ofInt k.bits a ^^^ BitVec.ofInt k.bits b).toNat)))
  | .eql => some (.bool (a == b))
  | .neq => some (.bool (a != b))
  | .lss => some (.bool (decide (a < b)))
  | .leq => some (.bool (decide (a ≤ b)))
  | .gtr => some (.bool (decide (b < a)))
  | .geq => some (.bool (decide (b ≤ a)))
  | _ => none

def vShift (op : BinOp) (k : IntKind) (a b : Int) : Option VV :=
  if b < 0 then none else
  match op with
  | .shl => some (.int k (k.wrap (a * 2 ^ (min b.toNat k.bits))))
  | .shr => some (.int k (a.fdiv (2 ^ (min b.toNat k.bits))))
  | _ => none

def vStr (op : BinOp) (a b : ByteArray) : Option VV :=
  match op with
  | .add => if a.size + b.size ≤ 9223372036854775807 then some (.str (a ++ b)) else none
  | .eql => some (.bool (a.toList == b.toList))
  | .neq => some (.bool (!(a.toList == b.toList)))
  | _ => none

def isShift : BinOp → Bool
  | .shl | .shr => true
  | _ => false

def isConstOp : Operand → Bool
  | .const _ => true
  | _ => false

def vBin (op : BinOp) (bo : Bool) (x y : VV) : Option VV :=
  match x, y with
  | .int k a, .int k' b => if isShift op then vShift op k a b else if k = k' then vArith op k a b else none
  | .str a, .str b => vStr op a b
  | .bool a, .bool b => if bo then (match op with | .eql => some (.bool (a == b)) | .neq => some (.bool (!(a == b))) | _ => none) else none
  | _, _ => none

theorem run_arith {P : Program} {w : World} {op : BinOp} {k : IntKind} {a b : Int} {x : VV} (t : TypeId) (h : vArith op k a b = some x) :
    ∃ v, (binOp op t (.int k a) (.int k b)).run P w = .ok v w ∧ x.const? = some v := by
  cases op <;> simp only [vArith] at h <;> (try split at h) <;> first
    | (injection h with h; subst h; refine ⟨_, ?_, rfl⟩; simp_all [binOp, Op.intArith, Op.intDiv, Op.intBits, Op.intCmp]; done)
    | cases h

theorem run_shift {P : Program} {w : World} {op : BinOp} {k k' : IntKind} {a b : Int} {x : VV} (t : TypeId) (h : vShift op k a b = some x) :
    ∃ v, (binOp op t (.int k a) (.int k' b)).run P w = .ok v w ∧ x.const? = some v := by
  by_cases hb : b < 0
  · simp [vShift, hb] at h
  · cases op <;> simp only [vShift, if_neg hb] at h <;> first
      | (have h' := Option.some.inj h; rw [← h']; refine ⟨_, ?_, rfl⟩; simp [binOp, Op.shift, hb]; done)
      | cases h

theorem run_str {P : Program} {w : World} {op : BinOp} {a b : ByteArray} {x : VV} (t : TypeId) (h : vStr op a b = some x) :
    ∃ v, (binOp op t (.string a) (.string b)).run P w = .ok v w ∧ x.const? = some v := by
  by_cases ha : op = .add
  · subst ha
    simp only [vStr] at h
    by_cases hs : a.size + b.size ≤ 9223372036854775807
    · rw [if_pos hs] at h
      have h' := Option.some.inj h
      rw [← h']
      have hn : ¬ ((a.size + b.size : Nat) : Int) > IntKind.i64.max := by simp [IntKind.max, IntKind.signed, IntKind.bits]; omega
      refine ⟨.string (a ++ b), ?_, rfl⟩
      simp only [binOp, Op.stringOp]
      rw [if_neg hn]
      rfl
    · rw [if_neg hs] at h; cases h
  · cases op <;> simp only [vStr] at h <;> first
      | exact absurd rfl ha
      | (have h' := Option.some.inj h; rw [← h']; refine ⟨_, ?_, rfl⟩; simp [binOp, Op.stringOp]; done)
      | cases h

theorem run_eqGuard_plain {P : Program} {w : World} (op : BinOp) (t : TypeId) (x y : Operand) {v u : Value} (hv : ∀ cs, v ≠ .agg cs) (hn : v ≠ .nilIface) :
    (eqGuard op t x y v u).run P w = .ok () w := by
  unfold eqGuard
  cases op <;> cases v <;> first
    | exact absurd rfl hn
    | exact absurd rfl (hv _)
    | (simp; done)
    | rfl

theorem const_rel {P : Program} {E : Env} {H : Heap} {g : Gh} {x : VV} {v : Value} (h : x.const? = some v) : VRel P E H g x v := by
  cases x <;> simp [VV.const?] at h <;> (subst h; rfl)

section
variable {P : Program} {E : Env} {g : Gh} {s : St} {a : Act} {w : World} {ty : Ty}

theorem gives_bin (hT : TyOK P ty) (h : Rel P E g s a w) {o : Oper} {op : BinOp} {t t' : TypeId} {x y : Operand} {r : VV} (ho : o.op = .binOp op t x y t')
    (hb : vBin op (isBo ty t) (ev s x) (ev s y) = some r) : Gives P E g s a w o r := by
  have hx := ev_rel h x
  have hy := ev_rel h y
  unfold Gives
  simp only [execOp, ho]
  generalize a.eval x = X at *
  generalize a.eval y = Y at *
  generalize ev s x = vx at *
  generalize ev s y = vy at *
  unfold vBin at hb
  split at hb
  · rename_i k n k' m
    obtain rfl : X = .int k n := hx
    obtain rfl : Y = .int k' m := hy
    have hg := run_eqGuard_plain (P := P) (w := w) op t x y (v := .int k n) (u := .int k' m) (by intro cs; simp) (by simp)
    have key : ∃ v, (binOp op t (.int k n) (.int k' m)).run P w = .ok v w ∧ r.const? = some v := by
      split at hb
      · exact run_shift t hb
      · split at hb
        · rename_i e; subst e; exact run_arith t hb
        · cases hb
    obtain ⟨v, hr, hc⟩ := key
    exact ⟨v, by simp [hg, hr], const_rel hc⟩
  · rename_i n m
    obtain rfl : X = .string n := hx
    obtain rfl : Y = .string m := hy
    have hg := run_eqGuard_plain (P := P) (w := w) op t x y (v := .string n) (u := .string m) (by intro cs; simp) (by simp)
    obtain ⟨v, hr, hc⟩ := run_str (P := P) (w := w) t hb
    exact ⟨v, by simp [hg, hr], const_rel hc⟩
  · rename_i n m
    obtain rfl : X = .bool n := hx
    obtain rfl : Y = .bool m := hy
    have hg := run_eqGuard_plain (P := P) (w := w) op t x y (v := .bool n) (u := .bool m) (by intro cs; simp) (by simp)
    split at hb
    · rename_i hbo
      have hu : P.underlying t = some .bool := isBo_spec hT hbo
      have he : ∀ d, (Op.equalIn (d + 1) t (.bool n) (.bool m)).run P w = .ok (n == m) w := fun d => by simp [Op.equalIn, run_underlying hu]
      cases op <;> simp only [] at hb <;> first
        | (have h' := Option.some.inj hb; rw [← h']; exact ⟨_, by simp [hg, binOp, Op.equal, Op.maxDepth, he 9999], rfl⟩)
        | cases hb
    · cases hb
  · cases hb
end
end Go.Proofs.Ytchkbgekmoileaa

/- The value-level engine, third part: reading memory. -/
namespace Go.Proofs.Ytchkbgekmoileaa
open Go Go.RowKit

def retype (ty : Ty) (t : TypeId) (x : VV) : VV :=
  match x with
  | .nl _ => match ty t with
    | some ⟨.sl e, _, _, _⟩ => .nl e
    | _ => x
  | x => x

def vPick (c : Bool) (x y : VV) : VV :=
  match x, y with
  | .bool a, .bool b => .bool (cond c a b)
  | .int k a, .int k' b => if k = k' then .int k (cond c a b) else cond c x y
  | x, y => cond c x y

def vUn (op : UnOp) (x : VV) : Option VV :=
  match op, x with
  | .neg, .int k n => some (.int k (k.wrap (0 - n)))
  | .not, .bool b => some (.bool (!b))
  | _, _ => none

def intOfT (ty : Ty) (t : TypeId) : Option IntKind :=
  match ty t with
  | some ⟨.it k, _, _, _⟩ => some k
  | _ => none

def isStr (ty : Ty) (t : TypeId) : Bool :=
  match ty t with
  | some ⟨.ss, _, _, _⟩ => true
  | _ => false
def isSl (ty : Ty) (t : TypeId) : Bool :=
  match ty t with
  | some ⟨.sl _, _, _, _⟩ => true
  | _ => false

/-- The cells of a row, from j on, n of them. -/
def rowVV (row : List PT) (n : Nat) : Option (List VV) :=
  let r := (row.take n).map PT.vv
  if r.length = n then some r else none

def plainCell : PT → Bool
  | .list _ _ | .hole => false
  | _ => true

def vLoad (ty : Ty) (s : St) (t : TypeId) (x : VV) : Option VV :=
  match ty t with
  | none => none
  | some d =>
    let cells : Option (List VV) :=
      match x with
      | .fp row => rowVV row d.size
      | .bp T j => match s.H T with
        | .box cs => let r := (cs.drop j).take d.size; if r.length = d.size then some r else none
        | _ => none
      | .np T i j => match s.H T with
        | .root _ rows => match rows[i]? with
          | some r => if ((r.drop j).take d.size).all plainCell then rowVV (r.drop j) d.size else none
          | none => none
        | _ => none
      | _ => none
    match cells with
    | none => none
    | some cs => if d.d.isAgg then some (.agg cs) else match cs with
      | [c] => some c
      | _ => none

def fieldOf (ty : Ty) (t : TypeId) (f : Nat) : Option (Nat × TypeId) :=
  match ty t with
  | some ⟨.st fs, _, _, _⟩ => fs[f]?
  | _ => none
def sizeT (ty : Ty) (t : TypeId) : Nat :=
  match ty t with
  | some d => d.size
  | none => 0

def vFieldAddr (ty : Ty) (s : St) (t : TypeId) (x : VV) (f : Nat) : Option VV :=
  match fieldOf ty t f with
  | some (off, ft) =>
    if sizeT ty ft = 0 then none else
    match x with
    | .fp row => some (.fp (row.drop off))
    | .bp T j => if (s.H T).live then some (.bp T (j + off)) else none
    | .np T i j => if (s.H T).isRoot then some (.np T i (j + off)) else none
    | _ => none
  | none => none

def vPart (ty : Ty) (ft : TypeId) (vs : List VV) (off : Nat) : Option VV :=
  match ty ft with
  | some d => if d.d.isAgg then (let r := (vs.drop off).take d.size; if r.length = d.size then some (.agg r) else none) else vs[off]?
  | none => none

/-- Whether two structs of numbers and bools are the same. -/
def eqFs (ty : Ty) (xs ys : List VV) : List (Nat × TypeId) → Option Bool
  | [] => some true
  | (off, ft) :: fs => match ty ft, vPart ty ft xs off, vPart ty ft ys off with
    | some ⟨.it _, _, _, _⟩, some (.int k a), some (.int k' b) => if k = k' then (match eqFs ty xs ys fs with | some c => some ((a == b) && c) | none => none) else none
    | some ⟨.bo, _, _, _⟩, some (.bool a), some (.bool b) => (match eqFs ty xs ys fs with | some c => some ((a == b) && c) | none => none)
    | _, _, _ => none
def vEqS (ty : Ty) (t : TypeId) (op : BinOp) (xs ys : List VV) : Option VV :=
  match ty t with
  | some ⟨.st fs, _, _, _⟩ => match eqFs ty xs ys fs with
    | some b => (match op with
      | .eql => some (.bool b)
      | .neq => some (.bool (!b))
      | _ => none)
    | none => none
  | _ => none
def vBinA (ty : Ty) (t : TypeId) (op : BinOp) (x y : VV) : Option VV :=
  match x, y with
  | .agg xs, .agg ys => vEqS ty t op xs ys
  | x, y => vBin op (isBo ty t) x y

def vField (ty : Ty) (t : TypeId) (x : VV) (f : Nat) : Option VV :=
  match fieldOf ty t f, x with
  | some (off, ft), .agg vs => vPart ty ft vs off
  | _, _ => none

def vIndexAddr (ty : Ty) (s : St) (t : TypeId) (x i : VV) : Option VV :=
  match ty t, i with
  | some ⟨.sl e, _, _, _⟩, .int _ n =>
    if sizeT ty e = 0 then none else
    match x with
    | .fr e' rows => if 0 ≤ n ∧ n < rows.length ∧ e' = e then some (.fp (rows[n.toNat]?.getD [])) else none
    | .rf T m => match s.H T with
      | .root e' rows => if 0 ≤ n ∧ n < m ∧ m ≤ rows.length ∧ e' = e then some (.np T n.toNat 0) else none
      | _ => none
    | _ => none
  | some ⟨.ar len e, _, _, _⟩, .int _ n =>
    if 0 ≤ n ∧ n < len ∧ sizeT ty e ≠ 0 then
      match x with
      | .fp row => some (.fp (row.drop (n.toNat * sizeT ty e)))
      | .bp T j => if (s.H T).live then some (.bp T (j + n.toNat * sizeT ty e)) else none
      | .np T i j => if (s.H T).isRoot then some (.np T i (j + n.toNat * sizeT ty e)) else none
      | _ => none
    else none
  | _, _ => none

def vIndex (ty : Ty) (t : TypeId) (x i : VV) : Option VV :=
  match x, i with
  | .str b, .int _ n => if 0 ≤ n ∧ isStr ty t = true then (match b[n.toNat]? with | some c => some (.int .u8 c.toNat) | none => none) else none
  | .agg vs, .int _ n => match ty t with
    | some ⟨.ar len e, _, _, _⟩ => if 0 ≤ n ∧ n < len then vPart ty e vs (n.toNat * sizeT ty e) else none
    | _ => none
  | _, _ => none

def vExtract (x : VV) (i : Nat) : Option VV :=
  match x with
  | .tup vs => vs[i]?
  | _ => none

def bound (lo : Option VV) (d : Nat) : Option Nat :=
  match lo with
  | none => some d
  | some (.int _ n) => if 0 ≤ n then some n.toNat else none
  | _ => none

def vSlice (ty : Ty) (s : St) (t : TypeId) (x : VV) (lo hi : Option VV) : Option VV :=
  match x with
  | .str b => match bound lo 0, bound hi b.size with
    | some l, some h => if l ≤ h ∧ h ≤ b.size ∧ isStr ty t = true then some (.str (b.extract l h)) else none
    | _, _ => none
  | .fr e rows => match ty t with
    | some ⟨.sl e', _, _, _⟩ => match bound lo 0, bound hi rows.length with
      | some l, some h => if l ≤ h ∧ h ≤ rows.length ∧ e' = e ∧ sizeT ty e ≠ 0 then some (.fr e ((rows.take h).drop l)) else none
      | _, _ => none
    | _ => none
  | .rf T n => match ty t with
    | some ⟨.sl e, _, _, _⟩ => match s.H T with
      | .root _ rows => match bound lo 0, bound hi n with
        | some 0, some h => if h ≤ n ∧ n ≤ rows.length ∧ sizeT ty e ≠ 0 then some (.rf T h) else none
        | _, _ => none
      | _ => none
    | _ => none
  | .bp T j => match ty t with
    | some ⟨.ar len e, _, _, _⟩ => match lo, hi with
      | none, none => if (s.H T).live = true ∧ sizeT ty e = 1 ∧ 0 < len ∧ len ≤ 1048576 then some (.bs T j len e) else none
      | _, _ => none
    | _ => none
  | _ => none

def vLen (ty : Ty) (s : St) (t : TypeId) (x : VV) : Option VV :=
  match x with
  | .str b => if isStr ty t = true then some (.int .i64 b.size) else none
  | .fr _ rows => if isSl ty t = true then some (.int .i64 rows.length) else none
  | .nl _ => if isSl ty t = true then some (.int .i64 0) else none
  | .rf T n => if isSl ty t = true then (match s.H T with | .root _ rows => if n ≤ rows.length then some (.int .i64 n) else none | _ => none) else none
  | _ => none

def vMin (x y : VV) : Option VV :=
  match x, y with
  | .int k a, .int _ b => some (.int k (if b < a then b else a))
  | _, _ => none
def vMax (x y : VV) : Option VV :=
  match x, y with
  | .int k a, .int _ b => some (.int k (if a < b then b else a))
  | _, _ => none

def vBuiltin (ty : Ty) (s : St) (b : Builtin) (xs : List VV) (ts : List TypeId) : Option VV :=
  match b with
  | .len => match xs, ts with
    | [x], [t] => vLen ty s t x
    | _, _ => none
  | .min => match xs with
    | [x, y] => vMin x y
    | _ => none
  | .max => match xs with
    | [x, y] => vMax x y
    | _ => none
  | _ => none

def capOk : VV → Bool
  | .bp _ _ | .fp _ => true
  | _ => false
def vMakeFunc (f : FuncId) (first : Nat) (caps : List VV) : Option VV := if first = 0 ∧ caps.all capOk = true then some (.clo f caps) else none

/-- What an operation that only computes gives. -/
def vval (ty : Ty) (s : St) (o : Oper) : Option VV :=
  match o.op with
  | .move x | .assign x => some (retype ty o.type (ev s x))
  | .pick c x y => match ev s c with
    | .bool b => some (vPick b (ev s x) (ev s y))
    | _ => none
  | .binOp op t x y _ => vBinA ty t op (ev s x) (ev s y)
  | .unOp op _ x => vUn op (ev s x)
  | .convert src dst x => match intOfT ty src, intOfT ty dst, ev s x with
    | some _, some k, .int _ n => some (.int k (k.wrap n))
    | _, _, _ => none
  | .load t x => vLoad ty s t (ev s x)
  | .fieldAddr t x f => vFieldAddr ty s t (ev s x) f
  | .field t x f => vField ty t (ev s x) f
  | .indexAddr t x i => vIndexAddr ty s t (ev s x) (ev s i)
  | .index t x i => vIndex ty t (ev s x) (ev s i)
  | .extract x i => vExtract (ev s x) i
  | .slice t x lo hi none => vSlice ty s t (ev s x) (lo.map (ev s)) (hi.map (ev s))
  | .nilCheck x => match ev s x with
    | .bp T j => if (s.H T).live then some (.bp T j) else none
    | .fp r => some (.fp r)
    | .np T i j => if (s.H T).isRoot then some (.np T i j) else none
    | _ => none
  | .makeFunc (.func f) first captured => vMakeFunc f first.size (captured.toList.map (ev s))
  | .call c => match c.callee with
    | .builtin b => vBuiltin ty s b (c.args.toList.map (ev s)) c.argTypes.toList
    | _ => none
  | _ => none
end Go.Proofs.Ytchkbgekmoileaa

/- The value-level engine, fourth part: the operations that only compute or read do on the machine what they do on values. -/
namespace Go.Proofs.Ytchkbgekmoileaa
open Go Go.RowKit

theorem add_off (b o j : Nat) : (⟨b, o, none⟩ : Addr).add j = ⟨b, o + j, none⟩ := by
  unfold Addr.add
  split
  · rename_i h; subst h; rfl
  · rfl

section
variable {P : Program} {E : Env} {g : Gh} {s : St} {a : Act} {w : World} {ty : Ty}

theorem rd_cell (h : Frm E w) {b o : Nat} {u : Value} (hr : E.rd b o u) : w.cell? ⟨b, o, none⟩ = some u := by
  obtain ⟨hb, ho, hc⟩ := hr
  cases hx : E.w0.heap[b]? with
  | none => simp [World.cell?, hx] at hc
  | some x =>
    cases x with
    | cells c e fz =>
      obtain ⟨c', hc', _, hk⟩ := h.cells b c e fz hx
      simp only [World.cell?, hx] at hc
      simp only [World.cell?, hc']
      have := hk o fun hh => ho (E.hidOk _ _ hh)
      simp_all
    | _ => simp [World.cell?, hx] at hc

theorem vrel_of_arel {H : Heap} {x : VV} {v : Value} (h : ARel P E H g x v) : VRel P E H g x v := by
  cases x <;> first | exact h | exact h.elim
theorem arel_of_crel {H : Heap} {x : VV} {v : Value} (h : CRel P E H g x v) : ARel P E H g x v := by
  cases x <;> first | exact h | exact h.elim
theorem vrel_of_crel {H : Heap} {x : VV} {v : Value} (h : CRel P E H g x v) : VRel P E H g x v := vrel_of_arel (arel_of_crel h)

theorem retype_rel {H : Heap} (t : TypeId) {x : VV} {v : Value} (h : VRel P E H g x v) : VRel P E H g (retype ty t x) v := by
  unfold retype
  split
  · split <;> exact h
  · exact h

/-- n cells of memory, as a variable's value. -/
theorem load_cells (hT : TyOK P ty) {H : Heap} {t : TypeId} {d : TyE} (ht : ty t = some d) {b o : Nat} {vs : List VV} (hl : vs.length = d.size)
    (hc : ∀ (j : Nat) (c : VV), vs[j]? = some c → ∃ u, w.cell? ⟨b, o + j, none⟩ = some u ∧ CRel P E H g c u) {x : VV}
    (hx : (if d.d.isAgg then some (.agg vs) else match vs with | [c] => some c | _ => none) = some x) :
    ∃ v, (Instr.loadAt t (.pointer (some ⟨b, o, none⟩))).run P w = .ok v w ∧ VRel P E H g x v := by
  have h1 := hT t d ht
  -- the cells as a list of values
  have hcs : ∃ cs : List Value, cs.length = vs.length ∧ ∀ (j : Nat) (c : VV) (u : Value), vs[j]? = some c → cs[j]? = some u → w.cell? ⟨b, o + j, none⟩ = some u ∧ CRel P E H g c u := by
    refine ⟨(List.range vs.length).map fun j => (w.cell? ⟨b, o + j, none⟩).getD undef, by simp, fun j c u hj hu => ?_⟩
    obtain ⟨u', h1, h2⟩ := hc j c hj
    have hlt : j < vs.length := by
      rcases Nat.lt_or_ge j vs.length with h | h
      · exact h
      · rw [List.getElem?_eq_none h] at hj; cases hj
    simp [hlt, h1] at hu
    subst hu
    exact ⟨h1, h2⟩
  obtain ⟨cs, hlen, hcs⟩ := hcs
  by_cases ha : d.d.isAgg = true
  · rw [if_pos ha] at hx
    have hx' := Option.some.inj hx
    have hr := run_loadCells_list (P := P) w ⟨b, o, none⟩ cs (fun j v hv => by
      rw [add_off]
      have hlt : j < cs.length := by
        rcases Nat.lt_or_ge j cs.length with h | h
        · exact h
        · rw [List.getElem?_eq_none h] at hv; cases hv
      exact (hcs j _ v (List.getElem?_eq_getElem (by omega)) hv).1)
    rw [hlen, hl] at hr
    refine ⟨.agg cs.toArray, ?_, ?_⟩
    · simp [Instr.loadAt, Instr.sureAddr, loadVar, h1.run_agg, ha, h1.run_size, hr]
    · rw [← hx']
      exact ⟨cs, rfl, hlen, fun j c u hj hu => (hcs j c u hj hu).2⟩
  · rw [if_neg ha] at hx
    match vs, hx with
    | [c], hx =>
      have hx' := Option.some.inj hx
      obtain ⟨u, hu, hcu⟩ := hc 0 c rfl
      refine ⟨u, ?_, ?_⟩
      · simp only [Nat.add_zero] at hu
        simp [Instr.loadAt, Instr.sureAddr, loadVar, h1.run_agg, ha, hu]
      · rw [← hx']; exact vrel_of_crel hcu

theorem rowVV_spec {row : List PT} {n : Nat} {vs : List VV} (h : rowVV row n = some vs) : vs.length = n ∧ ∀ (j : Nat) (c : VV), vs[j]? = some c → ∃ q, row[j]? = some q ∧ c = q.vv := by
  unfold rowVV at h
  simp only at h
  split at h
  · rename_i hl
    have h' := Option.some.inj h
    rw [← h']
    refine ⟨hl, fun j c hj => ?_⟩
    simp only [List.getElem?_map, List.getElem?_take] at hj
    split at hj
    · cases hr : row[j]? with
      | none => rw [hr] at hj; cases hj
      | some q => rw [hr] at hj; exact ⟨q, rfl, (Option.some.inj hj).symm⟩
    · cases hj
  · cases h

theorem ocell_vv {H : Heap} {c : PT} {h u : Value} (hp : plainCell c = true) (ho : ocell P E H g c h u) : CRel P E H g c.vv u := by
  cases c <;> first | exact ho | (simp [plainCell] at hp)

theorem load_run (hT : TyOK P ty) (h : Rel P E g s a w) {t : TypeId} {vx : VV} {X : Value} {r : VV} (hx : VRel P E s.H g vx X) (hb : vLoad ty s t vx = some r) : ∃ v, (Instr.loadAt t X).run P w = .ok v w ∧ VRel P E s.H g r v := by
  unfold vLoad at hb
  split at hb
  · cases hb
  · rename_i d ht
    simp only at hb
    split at hb
    · cases hb
    · rename_i cs hcs
      split at hcs
      · rename_i row
        obtain ⟨b, o, rfl, hr⟩ := hx
        obtain ⟨hl, hc⟩ := rowVV_spec hcs
        refine load_cells hT ht hl (fun j c hj => ?_) hb
        obtain ⟨q, hq, rfl⟩ := hc j c hj
        obtain ⟨u, h1, h2⟩ := hr j q hq
        exact ⟨u, rd_cell h.heap.frm h1, rd_vv h2⟩
      · rename_i T j0
        split at hcs
        · rename_i bs hbs
          try simp only at hcs
          split at hcs
          · rename_i hl
            have hcs' := Option.some.inj hcs
            obtain ⟨_, _, hv⟩ := hx
            have hv := hv (by simp [hbs, Ent.live])
            subst hv
            obtain ⟨cur, e, hw, _, hcell⟩ := h.heap.box T bs hbs
            refine load_cells hT ht (by rw [← hcs']; exact hl) (fun j c hj => ?_) hb
            rw [← hcs'] at hj
            rw [List.getElem?_take] at hj
            split at hj
            · rw [List.getElem?_drop] at hj
              obtain ⟨_, _, u, hu, hcr⟩ := hcell (j0 + j) c hj
              refine ⟨u, ?_, hcr⟩
              rw [cell_of_row _ _ _ _ _ _ hw, ← hu, Nat.add_assoc]
            · cases hj
          · cases hcs
        · cases hcs
      · rename_i T i j0
        split at hcs
        · rename_i e rows hroot
          split at hcs
          · rename_i r hr
            split at hcs
            · rename_i hpl
              obtain ⟨hl, hc⟩ := rowVV_spec hcs
              obtain ⟨_, _, hv⟩ := hx
              obtain ⟨b, n, c0, hhd, rfl⟩ := hv e rows hroot
              have hn := h.heap.node T e rows hroot [] e rows rfl
              refine load_cells hT ht hl (fun j c hj => ?_) hb
              obtain ⟨q, hq, rfl⟩ := hc j c hj
              rcases hn with ⟨h0, hnil⟩ | ⟨b', cap, cur, hhd', _, _, hw, _, _, hsz, hrows⟩
              · rw [hhd] at h0; cases h0
              · rw [hhd] at hhd'
                injection hhd' with e1 _ _
                injection e1 with e1
                injection e1 with e1 _ _
                subst e1
                obtain ⟨_, hcell⟩ := hrows i r hr
                rw [List.getElem?_drop] at hq
                obtain ⟨u, hu, hou⟩ := hcell (j0 + j) q hq
                refine ⟨u, ?_, ocell_vv ?_ hou⟩
                · rw [cell_of_row _ _ _ _ _ _ hw, ← hu, Nat.add_assoc]
                · have hmem : q ∈ (r.drop j0).take d.size := by
                    have hj2 : j < d.size := by
                      rcases Nat.lt_or_ge j cs.length with h' | h'
                      · omega
                      · rw [List.getElem?_eq_none h'] at hj; cases hj
                    refine List.mem_of_getElem? (i := j) ?_
                    rw [List.getElem?_take, if_pos hj2, List.getElem?_drop]
                    exact hq
                  exact List.all_eq_true.mp hpl q hmem
            · cases hcs
          · cases hcs
        · cases hcs
      · cases hcs

theorem gives_load (hT : TyOK P ty) (h : Rel P E g s a w) {o : Oper} {t : TypeId} {x : Operand} {r : VV} (ho : o.op = .load t x) (hb : vLoad ty s t (ev s x) = some r) : Gives P E g s a w o r := by
  obtain ⟨v, h1, h2⟩ := load_run hT h (ev_rel h x) hb
  exact ⟨v, by simp [execOp, ho, h1], h2⟩
end
end Go.Proofs.Ytchkbgekmoileaa

/- The value-level engine, fifth part: the other operations that only compute. -/
namespace Go.Proofs.Ytchkbgekmoileaa
open Go Go.RowKit

section
variable {P : Program} {E : Env} {g : Gh} {s : St} {a : Act} {w : World} {ty : Ty}

set_option linter.unusedVariables false
set_option linter.unusedSimpArgs false
theorem fieldOf_spec (hT : TyOK P ty) {t : TypeId} {f off : Nat} {ft : TypeId} (h : fieldOf ty t f = some (off, ft)) :
    ∃ F fl, P.underlying t = some (.struct F) ∧ F[f]? = some fl ∧ fl.offset = off ∧ fl.type = ft := by
  unfold fieldOf at h
  split at h
  · rename_i fs _ _ _ ht
    obtain ⟨F, hF, hm⟩ := (hT t _ ht).desc
    rw [← hm] at h
    simp only [List.getElem?_map, Array.getElem?_toList] at h
    cases hf : F[f]? with
    | none => rw [hf] at h; cases h
    | some fl =>
      rw [hf] at h
      have h' := Option.some.inj h
      exact ⟨F, fl, hF, hf, congrArg Prod.fst h', congrArg Prod.snd h'⟩
  · cases h

theorem sizeT_spec (hT : TyOK P ty) {t : TypeId} (h : sizeT ty t ≠ 0) : ∃ d, ty t = some d ∧ d.size = sizeT ty t := by
  unfold sizeT at h ⊢
  cases ht : ty t with
  | none => simp [ht] at h
  | some d => exact ⟨d, rfl, by simp⟩

theorem run_fieldAt (hT : TyOK P ty) {t : TypeId} {f off : Nat} {ft : TypeId} (h : fieldOf ty t f = some (off, ft)) (hs : sizeT ty ft ≠ 0) (b o : Nat) :
    (Instr.fieldAt t (.pointer (some ⟨b, o, none⟩)) f).run P w = .ok (.pointer (some ⟨b, o + off, none⟩)) w := by
  obtain ⟨F, fl, hF, hf, rfl, rfl⟩ := fieldOf_spec hT h
  obtain ⟨d, hd, hsz⟩ := sizeT_spec hT hs
  have h1 := (hT _ d hd).run_size w
  simp [Instr.fieldAt, run_underlying hF, hf, Instr.sureAddr, fieldPlace, h1, hsz, hs, add_off]

theorem isStr_spec (hT : TyOK P ty) {t : TypeId} (h : isStr ty t = true) : P.underlying t = some .string := by
  unfold isStr at h
  split at h
  · rename_i ht; exact (hT t _ ht).desc
  · cases h
theorem isSl_spec (hT : TyOK P ty) {t : TypeId} (h : isSl ty t = true) : ∃ e, P.underlying t = some (.slice e) := by
  unfold isSl at h
  split at h
  · rename_i ht; exact ⟨_, (hT t _ ht).desc⟩
  · cases h

theorem isRoot_spec {e : Ent} (h : e.isRoot = true) : ∃ t rows, e = .root t rows := by
  cases e <;> simp [Ent.isRoot] at h
  exact ⟨_, _, rfl⟩

/-- A pointer of the engine's, moved on by some cells. -/
theorem bp_on {H : Heap} {T j k : Nat} {X : Value} (hl : (H T).live = true) (hx : VRel P E H g (.bp T j) X) :
    ∃ b o, X = .pointer (some ⟨b, o, none⟩) ∧ VRel P E H g (.bp T (j + k)) (.pointer (some ⟨b, o + k, none⟩)) := by
  obtain ⟨hlt, hone, hv⟩ := hx
  exact ⟨_, _, hv hl, hlt, rfl, fun _ => by rw [Nat.add_assoc]⟩
theorem np_on {H : Heap} {T i j k : Nat} {X : Value} (hl : (H T).isRoot = true) (hx : VRel P E H g (.np T i j) X) :
    ∃ b o, X = .pointer (some ⟨b, o, none⟩) ∧ VRel P E H g (.np T i (j + k)) (.pointer (some ⟨b, o + k, none⟩)) := by
  obtain ⟨hlt, hone, hv⟩ := hx
  obtain ⟨e, rows, he⟩ := isRoot_spec hl
  obtain ⟨b, n, c, h1, h2⟩ := hv e rows he
  refine ⟨_, _, h2, hlt, rfl, fun e' rows' he' => ⟨b, n, c, h1, ?_⟩⟩
  rw [he] at he'
  injection he' with e1 _
  subst e1
  rw [Nat.add_assoc]
theorem fp_on {H : Heap} {row : List PT} {k : Nat} {X : Value} (hx : VRel P E H g (.fp row) X) :
    ∃ b o, X = .pointer (some ⟨b, o, none⟩) ∧ VRel P E H g (.fp (row.drop k)) (.pointer (some ⟨b, o + k, none⟩)) := by
  obtain ⟨b, o, rfl, hr⟩ := hx
  refine ⟨b, o, rfl, b, o + k, rfl, fun j c hj => ?_⟩
  rw [List.getElem?_drop] at hj
  obtain ⟨u, h1, h2⟩ := hr (k + j) c hj
  exact ⟨u, by rw [Nat.add_assoc]; exact h1, h2⟩

theorem gives_fieldAddr (hT : TyOK P ty) (h : Rel P E g s a w) {o : Oper} {t : TypeId} {x : Operand} {f : Nat} {r : VV} (ho : o.op = .fieldAddr t x f)
    (hb : vFieldAddr ty s t (ev s x) f = some r) : Gives P E g s a w o r := by
  have hx := ev_rel h x
  suffices hh : ∃ v, (Instr.fieldAt t (a.eval x) f).run P w = .ok v w ∧ VRel P E s.H g r v by
    obtain ⟨v, h1, h2⟩ := hh
    exact ⟨v, by simp [execOp, ho, h1], h2⟩
  generalize a.eval x = X at *
  generalize ev s x = vx at *
  unfold vFieldAddr at hb
  split at hb
  · rename_i off ft hf
    split at hb
    · cases hb
    · rename_i hs
      split at hb
      · have h' := Option.some.inj hb
        rw [← h']
        obtain ⟨b, o, rfl, hr⟩ := fp_on (k := off) hx
        exact ⟨_, run_fieldAt hT hf hs b o, hr⟩
      · split at hb
        · rename_i hl
          have h' := Option.some.inj hb
          rw [← h']
          obtain ⟨b, o, rfl, hr⟩ := bp_on (k := off) hl hx
          exact ⟨_, run_fieldAt hT hf hs b o, hr⟩
        · cases hb
      · split at hb
        · rename_i hl
          have h' := Option.some.inj hb
          rw [← h']
          obtain ⟨b, o, rfl, hr⟩ := np_on (k := off) hl hx
          exact ⟨_, run_fieldAt hT hf hs b o, hr⟩
        · cases hb
      · cases hb
  · cases hb

theorem part_spec (hT : TyOK P ty) {H : Heap} {ft : TypeId} {vs : List VV} {off : Nat} {r : VV} (hb : vPart ty ft vs off = some r) {cs : List Value} (hlen : cs.length = vs.length)
    (hc : ∀ (j : Nat) (c : VV) (u : Value), vs[j]? = some c → cs[j]? = some u → CRel P E H g c u) : ∃ v, (part ft cs.toArray off).run P w = .ok v w ∧ VRel P E H g r v := by
  unfold vPart at hb
  split at hb
  · rename_i d hd
    have h1 := hT ft d hd
    split at hb
    · rename_i ha
      simp only at hb
      split at hb
      · rename_i hl
        have h' := Option.some.inj hb
        rw [← h']
        refine ⟨.agg (cs.toArray.extract off (off + d.size)), ?_, (cs.drop off).take d.size, ?_, ?_, ?_⟩
        · simp [part, h1.run_agg, ha, h1.run_size]
        · simp [List.drop_take, Nat.add_comm]
        · simp only [List.length_take, List.length_drop] at hl ⊢
          omega
        · intro j c u hj hu
          rw [List.getElem?_take] at hj hu
          split at hj
          · rename_i hjl
            rw [if_pos hjl] at hu
            rw [List.getElem?_drop] at hj hu
            exact hc _ c u hj hu
          · cases hj
      · cases hb
    · rename_i ha
      have hlt : off < vs.length := by
        rcases Nat.lt_or_ge off vs.length with h | h
        · exact h
        · rw [List.getElem?_eq_none h] at hb; cases hb
      have hu : cs[off]? = some cs[off] := List.getElem?_eq_getElem (by omega)
      refine ⟨cs[off], ?_, vrel_of_crel (hc off r _ hb hu)⟩
      simp [part, h1.run_agg, ha, hu]
  · cases hb

theorem gives_field (hT : TyOK P ty) (h : Rel P E g s a w) {o : Oper} {t : TypeId} {x : Operand} {f : Nat} {r : VV} (ho : o.op = .field t x f)
    (hb : vField ty t (ev s x) f = some r) : Gives P E g s a w o r := by
  have hx := ev_rel h x
  suffices hh : ∃ v, (Instr.field t (a.eval x) f).run P w = .ok v w ∧ VRel P E s.H g r v by
    obtain ⟨v, h1, h2⟩ := hh
    exact ⟨v, by simp [execOp, ho, h1], h2⟩
  generalize a.eval x = X at *
  generalize ev s x = vx at *
  unfold vField at hb
  split at hb
  · rename_i off ft vs hf
    obtain ⟨F, fl, hF, hfl, rfl, rfl⟩ := fieldOf_spec hT hf
    obtain ⟨cs, rfl, hlen, hc⟩ := hx
    obtain ⟨v, hr, hv⟩ := part_spec (w := w) hT hb hlen hc
    exact ⟨v, by simp [Instr.field, run_underlying hF, hfl, asAgg, hr], hv⟩
  · cases hb

theorem run_indexAt_ar (hT : TyOK P ty) {t : TypeId} {len : Nat} {e : TypeId} {sz by' : Nat} {z : List VV} (ht : ty t = some ⟨.ar len e, sz, by', z⟩) (hs : sizeT ty e ≠ 0) {k : IntKind} {n : Int} (hn : 0 ≤ n ∧ n < len) (b o : Nat) :
    (Instr.indexAt t (.pointer (some ⟨b, o, none⟩)) (.int k n)).run P w = .ok (.pointer (some ⟨b, o + n.toNat * sizeT ty e, none⟩)) w := by
  have hu : P.underlying t = some (.array len e) := (hT t _ ht).desc
  obtain ⟨d, hd, hsz⟩ := sizeT_spec hT hs
  have h1 := (hT _ d hd).run_size w
  simp [Instr.indexAt, run_underlying hu, Instr.sureAddr, asIntOf, hn, h1, hsz, add_off]

theorem run_indexAt_sl (hT : TyOK P ty) {t e : TypeId} (hu : P.underlying t = some (.slice e)) (hs : sizeT ty e ≠ 0) {k : IntKind} {n : Int} {len cap : Nat} (hn : 0 ≤ n ∧ n < len) (b o : Nat) :
    (Instr.indexAt t (.slice (some ⟨b, o, none⟩) len cap) (.int k n)).run P w = .ok (.pointer (some ⟨b, o + n.toNat * P.cellsOf e, none⟩)) w := by
  obtain ⟨d, hd, hsz⟩ := sizeT_spec hT hs
  have h1 := (hT _ d hd).run_size w
  have h2 := (hT _ d hd).cells
  simp [Instr.indexAt, run_underlying hu, asIntOf, hn, h1, h2, add_off]

theorem At_cons {i j : Nat} {p : Path} {e : TypeId} {rows : List (List PT)} {r : List PT} {c : PT} (hr : rows[i]? = some r) (hc : r[j]? = some c) : At ((i, j) :: p) (.list e rows) = At p c := by
  simp [At, hr, hc]

theorem rd_of_fcell {e : TypeId} {rows : List (List PT)} {fh : Path → Value} (hnode : ∀ p e' rows', At p (.list e rows) = some (e', rows') → RdNode P E e' rows' (fun i j => fh (p ++ [(i, j)])) (fh p))
    {i j : Nat} {r : List PT} {c : PT} (hr : rows[i]? = some r) (hc : r[j]? = some c) {u : Value} (hf : fcell c (fh [(i, j)]) u) : Rd P E c u := by
  cases c with
  | list e' rows' =>
    refine ⟨fun q => fh ((i, j) :: q), hf.symm, fun p e2 rows2 hp => ?_⟩
    exact hnode ((i, j) :: p) e2 rows2 (by rw [At_cons hr hc]; exact hp)
  | _ => exact hf

theorem gives_indexAddr (hT : TyOK P ty) (h : Rel P E g s a w) {o : Oper} {t : TypeId} {x i : Operand} {r : VV} (ho : o.op = .indexAddr t x i)
    (hb : vIndexAddr ty s t (ev s x) (ev s i) = some r) : Gives P E g s a w o r := by
  have hx := ev_rel h x
  have hi := ev_rel h i
  suffices hh : ∃ v, (Instr.indexAt t (a.eval x) (a.eval i)).run P w = .ok v w ∧ VRel P E s.H g r v by
    obtain ⟨v, h1, h2⟩ := hh
    exact ⟨v, by simp [execOp, ho, h1], h2⟩
  generalize a.eval x = X at *
  generalize ev s x = vx at *
  generalize a.eval i = I at *
  generalize ev s i = vi at *
  unfold vIndexAddr at hb
  split at hb
  · rename_i e _ _ _ k n ht
    obtain rfl : I = .int k n := hi
    have hu : P.underlying t = some (.slice e) := (hT t _ ht).desc
    split at hb
    · cases hb
    · rename_i hs
      split at hb
      · rename_i e' rows
        split at hb
        · rename_i hn
          obtain ⟨hn0, hn1, rfl⟩ := hn
          have h' := Option.some.inj hb
          rw [← h']
          obtain ⟨fh, hfh, hnode⟩ := hx
          obtain ⟨A, cap, hv, _, _, hr⟩ := hnode [] e' rows rfl
          rw [hfh] at hv
          subst hv
          rcases hr with h0 | ⟨b, o, rfl, hrows⟩
          · subst h0; simp at hn1; omega
          · refine ⟨_, run_indexAt_sl hT hu hs ⟨hn0, hn1⟩ b o, b, _, rfl, fun j c hj => ?_⟩
            have hlt : n.toNat < rows.length := by omega
            rw [List.getElem?_eq_getElem hlt] at hj
            obtain ⟨_, hcell⟩ := hrows n.toNat _ (List.getElem?_eq_getElem hlt)
            obtain ⟨u, h1, h2⟩ := hcell j c hj
            exact ⟨u, by rw [Nat.add_assoc]; exact h1, rd_of_fcell hnode (List.getElem?_eq_getElem hlt) hj h2⟩
        · cases hb
      · rename_i T m
        split at hb
        · rename_i e' rows hroot
          split at hb
          · rename_i hn
            obtain ⟨hn0, hn1, hn2, rfl⟩ := hn
            have h' := Option.some.inj hb
            rw [← h']
            obtain ⟨hlt, hone, hv⟩ := hx
            have hv := hv (by simp [hroot, Ent.isRoot])
            rcases h.heap.node T e' rows hroot [] e' rows rfl with ⟨h0, hnil⟩ | ⟨b, cap, cur, hhd, _⟩
            · subst hnil; simp at hn2; omega
            · rw [hhd] at hv
              simp only [cutv] at hv
              subst hv
              refine ⟨_, run_indexAt_sl hT hu hs ⟨hn0, hn1⟩ b 0, hlt, rfl, fun e2 rows2 he2 => ⟨b, _, cap, hhd, ?_⟩⟩
              rw [hroot] at he2
              injection he2 with e1 _
              subst e1
              simp
          · cases hb
        · cases hb
      · cases hb
  · rename_i len e _ _ _ k n ht
    obtain rfl : I = .int k n := hi
    split at hb
    · rename_i hn
      obtain ⟨hn0, hn1, hs⟩ := hn
      split at hb
      · have h' := Option.some.inj hb
        rw [← h']
        obtain ⟨b, o, rfl, hr⟩ := fp_on (k := n.toNat * sizeT ty e) hx
        exact ⟨_, run_indexAt_ar hT ht hs ⟨hn0, hn1⟩ b o, hr⟩
      · split at hb
        · rename_i hl
          have h' := Option.some.inj hb
          rw [← h']
          obtain ⟨b, o, rfl, hr⟩ := bp_on (k := n.toNat * sizeT ty e) hl hx
          exact ⟨_, run_indexAt_ar hT ht hs ⟨hn0, hn1⟩ b o, hr⟩
        · cases hb
      · split at hb
        · rename_i hl
          have h' := Option.some.inj hb
          rw [← h']
          obtain ⟨b, o, rfl, hr⟩ := np_on (k := n.toNat * sizeT ty e) hl hx
          exact ⟨_, run_indexAt_ar hT ht hs ⟨hn0, hn1⟩ b o, hr⟩
        · cases hb
      · cases hb
    · cases hb
  · cases hb

theorem gives_index (hT : TyOK P ty) (h : Rel P E g s a w) {o : Oper} {t : TypeId} {x i : Operand} {r : VV} (ho : o.op = .index t x i)
    (hb : vIndex ty t (ev s x) (ev s i) = some r) : Gives P E g s a w o r := by
  have hx := ev_rel h x
  have hi := ev_rel h i
  suffices hh : ∃ v, (Instr.index t (a.eval x) (a.eval i)).run P w = .ok v w ∧ VRel P E s.H g r v by
    obtain ⟨v, h1, h2⟩ := hh
    exact ⟨v, by simp [execOp, ho, h1], h2⟩
  generalize a.eval x = X at *
  generalize ev s x = vx at *
  generalize a.eval i = I at *
  generalize ev s i = vi at *
  unfold vIndex at hb
  split at hb
  · rename_i b k n
    obtain rfl : X = .string b := hx
    obtain rfl : I = .int k n := hi
    split at hb
    · rename_i hn
      have hu := isStr_spec hT hn.2
      split at hb
      · rename_i c hc
        have h' := Option.some.inj hb
        rw [← h']
        exact ⟨.int .u8 c.toNat, by simp [Instr.index, run_underlying hu, asIntOf, hn.1, hc], rfl⟩
      · cases hb
    · cases hb
  · rename_i vs k n
    obtain rfl : I = .int k n := hi
    split at hb
    · rename_i len e _ _ _ ht
      split at hb
      · rename_i hn
        obtain ⟨cs, rfl, hlen, hc⟩ := hx
        have hu : P.underlying t = some (.array len e) := (hT t _ ht).desc
        obtain ⟨v, hr, hv⟩ := part_spec (w := w) hT hb hlen hc
        have hs : ∃ d, ty e = some d := by
          unfold vPart at hb
          split at hb
          · rename_i d hd; exact ⟨d, hd⟩
          · cases hb
        obtain ⟨d, hd⟩ := hs
        have h1 := (hT e d hd).run_size w
        have h2 : sizeT ty e = d.size := by simp [sizeT, hd]
        rw [h2] at hr
        exact ⟨v, by simp [Instr.index, run_underlying hu, asIntOf, hn, h1, hr], hv⟩
      · cases hb
    · cases hb
  · cases hb

theorem gives_extract (h : Rel P E g s a w) {o : Oper} {x : Operand} {i : Nat} {r : VV} (ho : o.op = .extract x i)
    (hb : vExtract (ev s x) i = some r) : Gives P E g s a w o r := by
  have hx := ev_rel h x
  suffices hh : ∃ v, (Instr.extract (a.eval x) i).run P w = .ok v w ∧ VRel P E s.H g r v by
    obtain ⟨v, h1, h2⟩ := hh
    exact ⟨v, by simp [execOp, ho, h1], h2⟩
  generalize a.eval x = X at *
  generalize ev s x = vx at *
  unfold vExtract at hb
  split at hb
  · obtain ⟨cs, rfl, hlen, hc⟩ := hx
    have hlt : i < cs.length := by
      rcases Nat.lt_or_ge i cs.length with h' | h'
      · exact h'
      · rw [hlen] at h'; rw [List.getElem?_eq_none h'] at hb; cases hb
    refine ⟨cs[i], ?_, vrel_of_arel (hc i r _ hb (List.getElem?_eq_getElem hlt))⟩
    simp [Instr.extract, hlt]
  · cases hb
end
end Go.Proofs.Ytchkbgekmoileaa

/- The value-level engine, sixth part: all operations that only compute. -/
namespace Go.Proofs.Ytchkbgekmoileaa
open Go Go.RowKit
set_option linter.unusedVariables false
set_option linter.unusedSimpArgs false

section
variable {P : Program} {E : Env} {g : Gh} {s : St} {a : Act} {w : World} {ty : Ty}

theorem run_size' (hT : TyOK P ty) {e : TypeId} (h : sizeT ty e ≠ 0) : (sizeOf e).run P w = .ok (P.cellsOf e) w := by
  obtain ⟨d, hd, hs⟩ := sizeT_spec hT h
  rw [(hT e d hd).cells]
  exact (hT e d hd).run_size w

theorem bound_spec {H : Heap} {x : Option Operand} {d n : Nat} {a : Act} (hx : ∀ y, VRel P E H g (ev s y) (a.eval y)) (hb : bound (x.map (ev s)) d = some n) :
    (x = none ∧ n = d) ∨ ∃ y k, x = some y ∧ a.eval y = .int k n := by
  cases x with
  | none => simp [bound] at hb; exact .inl ⟨rfl, hb.symm⟩
  | some y =>
    simp only [Option.map_some, bound] at hb
    have h := hx y
    split at hb
    · rename_i he; cases he
    · rename_i k m he
      have he' := Option.some.inj he
      rw [he'] at h
      split at hb
      · rename_i hm
        have h' := Option.some.inj hb
        refine .inr ⟨y, k, rfl, ?_⟩
        have : a.eval y = .int k m := h
        rw [this, ← h', Int.toNat_of_nonneg hm]
      · cases hb
    · cases hb

theorem run_sliceBound {k : IntKind} {n y : Nat} (hn : n ≤ y) (code : BoundsCode) : (Instr.sliceBound (.int k (n : Int)) y code).run P w = .ok n w := by
  have : ((0 : Int) ≤ n ∧ (n : Int) ≤ y) := ⟨by omega, by omega⟩
  simp [Instr.sliceBound, asIntOf, this]

theorem run_sliceBounds {isS : Bool} {len cap l h : Nat} {lo hi : Option Operand} {a : Act} (hlo : (lo = none ∧ l = 0) ∨ ∃ y k, lo = some y ∧ a.eval y = .int k l) (hhi : (hi = none ∧ h = len) ∨ ∃ y k, hi = some y ∧ a.eval y = .int k h)
    (hlh : l ≤ h) (hc : h ≤ cap) : (Instr.sliceBounds isS len cap (lo.map a.eval) (hi.map a.eval) none).run P w = .ok (l, h, cap) w := by
  rcases hlo with ⟨rfl, rfl⟩ | ⟨y, k, rfl, hy⟩ <;> rcases hhi with ⟨rfl, rfl⟩ | ⟨y2, k2, rfl, hy2⟩
  · simp [Instr.sliceBounds]
  · simp [Instr.sliceBounds, hy2, run_sliceBound hc]
  · simp [Instr.sliceBounds, hy, run_sliceBound hlh]
  · simp [Instr.sliceBounds, hy, hy2, run_sliceBound hlh, run_sliceBound hc]

theorem At_cut {e : TypeId} {rows : List (List PT)} {l h : Nat} {i j : Nat} {p : Path} (hi : i < h - l) : At ((i, j) :: p) (.list e ((rows.take h).drop l)) = At ((l + i, j) :: p) (.list e rows) := by
  simp only [At]
  rw [List.getElem?_drop, List.getElem?_take, if_pos (by omega)]

theorem rd_cut (hT : TyOK P ty) {e : TypeId} {rows : List (List PT)} {l h : Nat} (hlh : l ≤ h) (hh : h ≤ rows.length) {fh : Path → Value} {cap : Nat} {A : Option Addr} (hfh : fh [] = .slice A rows.length cap)
    (hnode : ∀ p e' rows', At p (.list e rows) = some (e', rows') → RdNode P E e' rows' (fun i j => fh (p ++ [(i, j)])) (fh p)) :
    Rd P E (.list e ((rows.take h).drop l)) (.slice (if cap = l then A else A.map (·.add (l * P.cellsOf e))) (h - l) (cap - l)) := by
  refine ⟨fun p => match p with | [] => .slice (if cap = l then A else A.map (·.add (l * P.cellsOf e))) (h - l) (cap - l) | (i, j) :: p => fh ((l + i, j) :: p), rfl, fun p e' rows' hp => ?_⟩
  have hlen : ((rows.take h).drop l).length = h - l := by simp; omega
  cases p with
  | nil =>
    simp only [At, Option.some.injEq, Prod.mk.injEq] at hp
    obtain ⟨rfl, rfl⟩ := hp
    obtain ⟨A', cap', hv, hc1, hc2, hr⟩ := hnode [] e rows rfl
    rw [hfh] at hv
    injection hv with e1 _ e3
    subst e1
    subst e3
    refine ⟨_, _, by rw [hlen], by rw [hlen]; omega, by omega, ?_⟩
    rcases hr with h0 | ⟨b, o, rfl, hrows⟩
    · subst h0; simp
    · by_cases hz : h - l = 0
      · left; exact List.eq_nil_of_length_eq_zero (by omega)
      · right
        refine ⟨b, o + l * P.cellsOf e, ?_, fun i r hr => ?_⟩
        · rw [if_neg (by omega)]; simp [add_off]
        · rw [List.getElem?_drop, List.getElem?_take] at hr
          split at hr
          · obtain ⟨h1, h2⟩ := hrows (l + i) r hr
            refine ⟨h1, fun j c hc => ?_⟩
            obtain ⟨u, h3, h4⟩ := h2 j c hc
            refine ⟨u, ?_, h4⟩
            rw [show o + l * P.cellsOf e + (i * P.cellsOf e + j) = o + ((l + i) * P.cellsOf e + j) by rw [Nat.add_mul]; omega]
            exact h3
          · cases hr
  | cons ij p =>
    obtain ⟨i, j⟩ := ij
    have hi : i < h - l := by
      rcases Nat.lt_or_ge i (h - l) with h' | h'
      · exact h'
      · simp only [At] at hp
        have hz : ((rows.take h).drop l)[i]? = none := List.getElem?_eq_none (by rw [hlen]; exact h')
        rw [hz] at hp
        simp at hp
    rw [At_cut hi] at hp
    exact hnode _ e' rows' hp

theorem gives_slice (hT : TyOK P ty) (h : Rel P E g s a w) {o : Oper} {t : TypeId} {x : Operand} {lo hi : Option Operand} {r : VV} (ho : o.op = .slice t x lo hi none)
    (hb : vSlice ty s t (ev s x) (lo.map (ev s)) (hi.map (ev s)) = some r) : Gives P E g s a w o r := by
  have hx := ev_rel h x
  have hev := fun y => ev_rel h y
  suffices hh : ∃ v, (Instr.sliceAt t (a.eval x) (lo.map a.eval) (hi.map a.eval) none).run P w = .ok v w ∧ VRel P E s.H g r v by
    obtain ⟨v, h1, h2⟩ := hh
    exact ⟨v, by simp [execOp, ho, h1], h2⟩
  generalize a.eval x = X at *
  generalize ev s x = vx at *
  unfold vSlice at hb
  split at hb
  · rename_i b
    obtain rfl : X = .string b := hx
    split at hb
    · rename_i l hh hl hhi
      split at hb
      · rename_i hc
        obtain ⟨c1, c2, c3⟩ := hc
        have hu := isStr_spec hT c3
        have h' := Option.some.inj hb
        rw [← h']
        have hr := run_sliceBounds (P := P) (w := w) (isS := false) (bound_spec hev hl) (bound_spec hev hhi) c1 c2
        exact ⟨.string (b.extract l hh), by simp [Instr.sliceAt, Instr.slice, run_underlying hu, hr], rfl⟩
      · cases hb
    · cases hb
  · rename_i e rows
    split at hb
    · rename_i e' _ _ _ ht
      have hu : P.underlying t = some (.slice e') := (hT t _ ht).desc
      split at hb
      · rename_i l hh hl hhi
        split at hb
        · rename_i hc
          obtain ⟨c1, c2, rfl, c4⟩ := hc
          have h' := Option.some.inj hb
          rw [← h']
          obtain ⟨fh, hfh, hnode⟩ := hx
          obtain ⟨A, cap, hv, hc1, hc2, hrr⟩ := hnode [] e' rows rfl
          rw [hfh] at hv
          subst hv
          have hr := run_sliceBounds (P := P) (w := w) (isS := true) (bound_spec hev hl) (bound_spec hev hhi) c1 (by omega : hh ≤ cap)
          have hs1 := run_size' (w := w) hT c4
          exact ⟨.slice (if cap = l then A else A.map (·.add (l * P.cellsOf e'))) (hh - l) (cap - l), by simp [Instr.sliceAt, Instr.slice, run_underlying hu, hr, hs1], rd_cut hT c1 c2 hfh hnode⟩
        · cases hb
      · cases hb
    · cases hb
  · rename_i T n
    split at hb
    · rename_i e _ _ _ ht
      have hu : P.underlying t = some (.slice e) := (hT t _ ht).desc
      split at hb
      · rename_i e' rows hroot
        split at hb
        · rename_i hh hl hhi
          split at hb
          · rename_i hc
            obtain ⟨c1, c2, c3⟩ := hc
            have h' := Option.some.inj hb
            rw [← h']
            obtain ⟨hlt, hone, hv⟩ := hx
            have hv := hv (by simp [hroot, Ent.isRoot])
            subst hv
            have hcap : ∃ A cap, g.hd T [] = .slice A rows.length cap ∧ rows.length ≤ cap := by
              rcases h.heap.node T e' rows hroot [] e' rows rfl with ⟨h0, hnil⟩ | ⟨b, cap, cur, hhd, _, _, _, hcap, _⟩
              · exact ⟨none, 0, by rw [h0, hnil]; rfl, by simp [hnil]⟩
              · exact ⟨_, cap, hhd, hcap⟩
            obtain ⟨A, cap, hhd, hcap⟩ := hcap
            have hr := run_sliceBounds (P := P) (w := w) (isS := true) (len := n) (bound_spec hev hl) (bound_spec hev hhi) (Nat.zero_le _) (by omega : hh ≤ cap)
            have hs1 := run_size' (w := w) hT c3
            rw [hhd]
            simp only [cutv]
            refine ⟨.slice A hh cap, ?_, hlt, rfl, fun _ => by rw [hhd]; rfl⟩
            simp only [Instr.sliceAt, Sem.run_bind, run_underlying hu, Result.andThen_ok, Instr.slice, hr, hs1, Sem.run_pure, Nat.sub_zero, Nat.zero_mul]
            congr 2
            split
            · rfl
            · cases A with
              | none => rfl
              | some ad => simp [Addr.add]
          · cases hb
        · cases hb
      · cases hb
    · cases hb
  · rename_i T j
    split at hb
    · rename_i len e _ _ _ ht
      have hu : P.underlying t = some (.array len e) := (hT t _ ht).desc
      split at hb
      · rename_i h1 h2
        have hlo : lo = none := by simpa using h1
        have hhi : hi = none := by simpa using h2
        subst hlo
        subst hhi
        split at hb
        · rename_i hc
          obtain ⟨c1, c2, c3, c4⟩ := hc
          have h' := Option.some.inj hb
          rw [← h']
          obtain ⟨hsn, _, hv⟩ := hx
          have hv := hv c1
          subst hv
          obtain ⟨d, hd, hsz⟩ := sizeT_spec hT (t := e) (by omega)
          have hs1 := (hT _ d hd).run_size w
          have hcell : P.cellsOf e = 1 := by rw [(hT _ d hd).cells]; omega
          refine ⟨.slice (some ⟨(g.bx T).1, (g.bx T).2 + j, none⟩) len len, ?_, hsn, rfl, ⟨hcell, by simp only [maxLen]; omega⟩, fun _ => rfl⟩
          have hne : ¬ len = 0 := by omega
          simp [Instr.sliceAt, run_underlying hu, Instr.sureAddr, Instr.sliceBounds, hs1, hne, Addr.add]
        · cases hb
      · cases hb
    · cases hb
  · cases hb
end
end Go.Proofs.Ytchkbgekmoileaa

/- The value-level engine, seventh part: every operation that only computes. -/
namespace Go.Proofs.Ytchkbgekmoileaa
open Go Go.RowKit
set_option linter.unusedVariables false
set_option linter.unusedSimpArgs false

section
variable {P : Program} {E : Env} {g : Gh} {s : St} {a : Act} {w : World} {ty : Ty}

theorem pick_rel {H : Heap} {b : Bool} {x y : VV} {X Y : Value} (hx : VRel P E H g x X) (hy : VRel P E H g y Y) : VRel P E H g (vPick b x y) (if b then X else Y) := by
  have base : VRel P E H g (cond b x y) (if b then X else Y) := by cases b <;> assumption
  unfold vPick
  split
  · obtain rfl : X = .bool _ := hx
    obtain rfl : Y = .bool _ := hy
    cases b <;> rfl
  · split
    · rename_i e
      subst e
      obtain rfl : X = .int _ _ := hx
      obtain rfl : Y = .int _ _ := hy
      cases b <;> rfl
    · exact base
  · exact base

theorem intOfT_spec (hT : TyOK P ty) {t : TypeId} {k : IntKind} (h : intOfT ty t = some k) : P.underlying t = some (.int k) := by
  unfold intOfT at h
  split at h
  · rename_i ht
    have := Option.some.inj h
    subst this
    exact (hT t _ ht).desc
  · cases h

theorem gives_len (hT : TyOK P ty) (h : Rel P E g s a w) {x : Operand} {t tr : TypeId} {r : VV} (hb : vLen ty s t (ev s x) = some r) :
    ∃ v, (Builtin.len_ #[t] tr #[a.eval x]).run P w = .ok v w ∧ VRel P E s.H g r v := by
  have hx := ev_rel h x
  generalize a.eval x = X at *
  generalize ev s x = vx at *
  unfold vLen at hb
  split at hb
  · rename_i b
    obtain rfl : X = .string b := hx
    split at hb
    · rename_i hs
      have h' := Option.some.inj hb
      rw [← h']
      exact ⟨goInt b.size, by simp [Builtin.len_, run_underlying (isStr_spec hT hs)], rfl⟩
    · cases hb
  · split at hb
    · rename_i e rows hs
      have h' := Option.some.inj hb
      rw [← h']
      obtain ⟨u, hu⟩ := isSl_spec hT hs
      obtain ⟨fh, hfh, hnode⟩ := hx
      obtain ⟨A, cap, hv, _⟩ := hnode [] e rows rfl
      rw [hfh] at hv
      subst hv
      exact ⟨goInt rows.length, by simp [Builtin.len_, run_underlying hu], rfl⟩
    · cases hb
  · split at hb
    · rename_i hs
      have h' := Option.some.inj hb
      rw [← h']
      obtain ⟨u, hu⟩ := isSl_spec hT hs
      obtain rfl : X = .slice none 0 0 := hx
      exact ⟨goInt 0, by simp [Builtin.len_, run_underlying hu], rfl⟩
    · cases hb
  · rename_i T n
    split at hb
    · rename_i hs
      split at hb
      · rename_i e rows hroot
        split at hb
        · rename_i hn
          have h' := Option.some.inj hb
          rw [← h']
          obtain ⟨u, hu⟩ := isSl_spec hT hs
          obtain ⟨hlt, hone, hv⟩ := hx
          have hv := hv (by simp [hroot, Ent.isRoot])
          subst hv
          have hcap : ∃ A cap, g.hd T [] = .slice A rows.length cap := by
            rcases h.heap.node T e rows hroot [] e rows rfl with ⟨h0, hnil⟩ | ⟨b, cap, cur, hhd, _⟩
            · exact ⟨none, 0, by rw [h0, hnil]; rfl⟩
            · exact ⟨_, cap, hhd⟩
          obtain ⟨A, cap, hhd⟩ := hcap
          rw [hhd]
          exact ⟨goInt n, by simp [Builtin.len_, run_underlying hu, cutv], rfl⟩
        · cases hb
      · cases hb
    · cases hb
  · cases hb

theorem map_one {f : Operand → VV} {l : List Operand} {x : VV} (h : l.map f = [x]) : ∃ y, l = [y] ∧ f y = x := by
  match l, h with
  | [y], h => exact ⟨y, rfl, by simpa using h⟩
theorem map_two {f : Operand → VV} {l : List Operand} {x x' : VV} (h : l.map f = [x, x']) : ∃ y y', l = [y, y'] ∧ f y = x ∧ f y' = x' := by
  match l, h with
  | [y, y'], h => simp at h; exact ⟨y, y', rfl, h.1, h.2⟩

theorem eqFields_run (hT : TyOK P ty) {H : Heap} {xs ys : List VV} {cs ds : List Value} (hl1 : cs.length = xs.length) (hl2 : ds.length = ys.length)
    (hc : ∀ (j : Nat) (c : VV) (u : Value), xs[j]? = some c → cs[j]? = some u → CRel P E H g c u) (hd : ∀ (j : Nat) (c : VV) (u : Value), ys[j]? = some c → ds[j]? = some u → CRel P E H g c u) (d : Nat) :
    ∀ (Fs : List Field) (b : Bool), eqFs ty xs ys (Fs.map fun f => (f.offset, f.type)) = some b → (Fs.all fun f => f.name != "_") = true → (Op.eqFields (d + 1) cs.toArray ds.toArray Fs).run P w = .ok b w
  | [], b, hb, _ => by
    simp only [List.map_nil, eqFs, Option.some.injEq] at hb
    subst hb
    simp [Op.eqFields]
  | f :: Fs, b, hb, hn => by
    simp only [List.all_cons, Bool.and_eq_true, bne_iff_ne, ne_eq] at hn
    simp only [List.map_cons, eqFs] at hb
    have hne : f.name ≠ "_" := hn.1
    split at hb
    · rename_i k0 _ _ _ k a k' c ht hx hy
      split at hb
      · rename_i hk
        subst hk
        split at hb
        · rename_i c0 hc0
          simp only [Option.some.injEq] at hb
          subst hb
          have ih := eqFields_run hT hl1 hl2 hc hd d Fs c0 hc0 hn.2
          obtain ⟨v1, r1, q1⟩ := part_spec (w := w) hT hx hl1 hc
          obtain ⟨v2, r2, q2⟩ := part_spec (w := w) hT hy hl2 hd
          have q1 : v1 = .int k a := q1
          have q2 : v2 = .int k c := q2
          subst q1; subst q2
          have hu : P.underlying f.type = some (.int k0) := (hT f.type _ ht).desc
          simp only [Op.eqFields, if_pos hne, Sem.run_bind, r1, r2, Result.andThen_ok, run_equalIn_int w d f.type k k0 a c hu]
          cases hac : (a == c) with
          | true => simp only [Bool.not_true, Bool.false_eq_true, if_false, Bool.true_and]; exact ih
          | false => simp
        · cases hb
      · cases hb
    · rename_i _ _ _ a c ht hx hy
      split at hb
      · rename_i c0 hc0
        simp only [Option.some.injEq] at hb
        subst hb
        have ih := eqFields_run hT hl1 hl2 hc hd d Fs c0 hc0 hn.2
        obtain ⟨v1, r1, q1⟩ := part_spec (w := w) hT hx hl1 hc
        obtain ⟨v2, r2, q2⟩ := part_spec (w := w) hT hy hl2 hd
        have q1 : v1 = .bool a := q1
        have q2 : v2 = .bool c := q2
        subst q1; subst q2
        have hu : P.underlying f.type = some .bool := (hT f.type _ ht).desc
        simp only [Op.eqFields, if_pos hne, Sem.run_bind, r1, r2, Result.andThen_ok, run_equalIn_bool' w d f.type a c hu]
        cases hac : (a == c) with
        | true => simp only [Bool.not_true, Bool.false_eq_true, if_false, Bool.true_and]; exact ih
        | false => simp
      · cases hb
    · cases hb
theorem gives_binA (hT : TyOK P ty) (h : Rel P E g s a w) {o : Oper} {op : BinOp} {t t' : TypeId} {x y : Operand} {r : VV} (ho : o.op = .binOp op t x y t')
    (hb : vBinA ty t op (ev s x) (ev s y) = some r) : Gives P E g s a w o r := by
  unfold vBinA at hb
  split at hb
  · rename_i xs ys hex hey
    have hx := ev_rel h x
    have hy := ev_rel h y
    rw [hex] at hx
    rw [hey] at hy
    obtain ⟨cs, e1, l1, c1⟩ := hx
    obtain ⟨ds, e2, l2, c2⟩ := hy
    unfold vEqS at hb
    split at hb
    · rename_i fs _ _ _ ht
      split at hb
      · rename_i b hfs
        have h1 := hT t _ ht
        obtain ⟨F, hF, hm⟩ := h1.desc
        have he := h1.eqs F hF
        simp only [eqSt, Bool.and_eq_true, Bool.not_eq_true'] at he
        obtain ⟨⟨g1, g2⟩, g3⟩ := he
        have hFs : P.fieldsOf t = F := by unfold Program.fieldsOf; rw [hF]
        have hu : P.underlying t = some (.struct (P.fieldsOf t)) := by rw [hFs]; exact hF
        rw [← hm] at hfs
        have hr := eqFields_run (w := w) hT l1 l2 c1 c2 9998 F.toList b hfs g3
        have hq : (Op.equalIn 10000 t (.agg cs.toArray) (.agg ds.toArray)).run P w = .ok b w := by
          rw [show (10000 : Nat) = 9999 + 1 from rfl, run_equalIn_struct w 9999 t _ _ hu g2, hFs]
          exact hr
        unfold Gives
        simp only [execOp, ho, e1, e2]
        have hg := run_eqGuard_agg (P := P) w op t x y cs.toArray ds.toArray g1
        cases op <;> simp only [] at hb <;> first
          | cases hb; done
          | (have h' := Option.some.inj hb; rw [← h']; exact ⟨.bool b, by simp [hg, run_eql_struct, hq], rfl⟩)
          | (have h' := Option.some.inj hb; rw [← h']; exact ⟨.bool (!b), by simp [hg, run_neq_struct, hq], rfl⟩)
      · cases hb
    · cases hb
  · exact gives_bin hT h ho hb

theorem gives_val (hT : TyOK P ty) (h : Rel P E g s a w) {o : Oper} {r : VV} (hb : vval ty s o = some r) : Gives P E g s a w o r := by
  unfold vval at hb
  split at hb
  · rename_i x ho
    have h' := Option.some.inj hb
    rw [← h']
    exact ⟨a.eval x, by simp [execOp, ho], retype_rel _ (ev_rel h x)⟩
  · rename_i x ho
    have h' := Option.some.inj hb
    rw [← h']
    exact ⟨a.eval x, by simp [execOp, ho], retype_rel _ (ev_rel h x)⟩
  · rename_i c x y ho
    split at hb
    · rename_i b hc
      have h' := Option.some.inj hb
      rw [← h']
      have h1 := ev_rel h c
      rw [hc] at h1
      have h1 : a.eval c = .bool b := h1
      refine ⟨if b then a.eval x else a.eval y, by simp [execOp, ho, h1, asBool], pick_rel (ev_rel h x) (ev_rel h y)⟩
    · cases hb
  · rename_i ho
    exact gives_binA hT h ho hb
  · rename_i op t x ho
    have h1 := ev_rel h x
    unfold vUn at hb
    split at hb
    · rename_i k n hx
      rw [hx] at h1
      have h1 : a.eval x = .int k n := h1
      have h' := Option.some.inj hb
      rw [← h']
      exact ⟨.int k (k.wrap (0 - n)), by simp [execOp, ho, h1, Op.unary, Op.intArith], rfl⟩
    · rename_i b hx
      rw [hx] at h1
      have h1 : a.eval x = .bool b := h1
      have h' := Option.some.inj hb
      rw [← h']
      exact ⟨.bool (!b), by simp [execOp, ho, h1, Op.unary], rfl⟩
    · cases hb
  · rename_i src dst x ho
    split at hb
    · rename_i k0 k k' n hs hd hx
      have h1 := ev_rel h x
      rw [hx] at h1
      have h1 : a.eval x = .int k' n := h1
      have h' := Option.some.inj hb
      rw [← h']
      exact ⟨.int k (k.wrap n), by simp [execOp, ho, h1, convert, run_underlying (intOfT_spec hT hs), run_underlying (intOfT_spec hT hd), Conv.intToInt], rfl⟩
    · cases hb
  · rename_i ho
    exact gives_load hT h ho hb
  · rename_i ho
    exact gives_fieldAddr hT h ho hb
  · rename_i ho
    exact gives_field hT h ho hb
  · rename_i ho
    exact gives_indexAddr hT h ho hb
  · rename_i ho
    exact gives_index hT h ho hb
  · rename_i ho
    exact gives_extract h ho hb
  · rename_i ho
    exact gives_slice hT h ho hb
  · rename_i x ho
    have h1 := ev_rel h x
    split at hb
    · rename_i T j hx
      rw [hx] at h1
      split at hb
      · rename_i hl
        have h' := Option.some.inj hb
        rw [← h']
        obtain ⟨b, o', hv, _⟩ := bp_on (k := 0) hl h1
        exact ⟨a.eval x, by simp [execOp, ho, hv], h1⟩
      · cases hb
    · rename_i row hx
      rw [hx] at h1
      have h' := Option.some.inj hb
      rw [← h']
      obtain ⟨b, o', hv, _⟩ := fp_on (k := 0) h1
      exact ⟨a.eval x, by simp [execOp, ho, hv], h1⟩
    · rename_i T i j hx
      rw [hx] at h1
      split at hb
      · rename_i hl
        have h' := Option.some.inj hb
        rw [← h']
        obtain ⟨b, o', hv, _⟩ := np_on (k := 0) hl h1
        exact ⟨a.eval x, by simp [execOp, ho, hv], h1⟩
      · cases hb
    · cases hb
  · rename_i f first captured ho
    unfold vMakeFunc at hb
    split at hb
    · rename_i hc
      obtain ⟨h1, h2⟩ := hc
      simp only [Option.some.injEq] at hb
      subst hb
      have e1 : first = #[] := Array.eq_empty_of_size_eq_zero h1
      subst e1
      refine ⟨.func (.func f) #[] (captured.map a.eval), by simp [execOp, ho, Instr.makeFunc], (captured.map a.eval).toList, Array.toArray_toList.symm ▸ rfl, by simp, fun j c u hc hu => ?_⟩
      simp only [List.getElem?_map, Option.map_eq_some_iff] at hc
      obtain ⟨y, hy, rfl⟩ := hc
      simp only [Array.toList_map, List.getElem?_map, hy, Option.map_some, Option.some.injEq] at hu
      subst hu
      have hr := ev_rel h y
      have hok := List.all_eq_true.mp h2 _ (List.mem_map_of_mem (List.mem_of_getElem? hy))
      generalize ev s y = x at hr hok
      cases x <;> first | (simp [capOk] at hok; done) | exact hr
    · cases hb
  · rename_i c ho
    split at hb
    · rename_i b hcal
      unfold vBuiltin at hb
      split at hb
      · split at hb
        · rename_i x t hxs hts
          obtain ⟨y, hy, rfl⟩ := map_one hxs
          obtain ⟨v, h1, h2⟩ := gives_len (tr := o.type) hT h hb
          have e1 : c.args = #[y] := by rw [← Array.toList_inj]; exact hy
          have e2 : c.argTypes = #[t] := by rw [← Array.toList_inj]; exact hts
          exact ⟨v, by simp [execOp, ho, resolve, hcal, e1, e2, invoke, builtin, h1], h2⟩
        · cases hb
      · split at hb
        · rename_i x y hxs
          obtain ⟨x', y', hy, rfl, rfl⟩ := map_two hxs
          have e1 : c.args = #[x', y'] := by rw [← Array.toList_inj]; exact hy
          have h1 := ev_rel h x'
          have h2 := ev_rel h y'
          unfold vMin at hb
          split at hb
          · rename_i k n k' m hx hy
            rw [hx] at h1
            rw [hy] at h2
            have h1 : a.eval x' = .int k n := h1
            have h2 : a.eval y' = .int k' m := h2
            have h' := Option.some.inj hb
            rw [← h']
            exact ⟨.int k (if m < n then m else n), by simp [execOp, ho, resolve, hcal, e1, invoke, builtin, Builtin.min_, Builtin.min2, h1, h2], rfl⟩
          · cases hb
        · cases hb
      · split at hb
        · rename_i x y hxs
          obtain ⟨x', y', hy, rfl, rfl⟩ := map_two hxs
          have e1 : c.args = #[x', y'] := by rw [← Array.toList_inj]; exact hy
          have h1 := ev_rel h x'
          have h2 := ev_rel h y'
          unfold vMax at hb
          split at hb
          · rename_i k n k' m hx hy
            rw [hx] at h1
            rw [hy] at h2
            have h1 : a.eval x' = .int k n := h1
            have h2 : a.eval y' = .int k' m := h2
            have h' := Option.some.inj hb
            rw [← h']
            exact ⟨.int k (if n < m then m else n), by simp [execOp, ho, resolve, hcal, e1, invoke, builtin, Builtin.max_, Builtin.max2, h1, h2], rfl⟩
          · cases hb
        · cases hb
      · cases hb
    · cases hb
  · cases hb
end
end Go.Proofs.Ytchkbgekmoileaa

/- The value-level engine, eighth part: what stays true when the world grows or a variable is written. -/
namespace Go.Proofs.Ytchkbgekmoileaa
open Go Go.RowKit
set_option linter.unusedVariables false
set_option linter.unusedSimpArgs false

section
variable {P : Program} {E : Env} {g g' : Gh} {H H' : Heap} {w w' : World}

theorem HLe.refl (g : Gh) (H : Heap) : HLe g H g H := ⟨fun _ h => h, fun _ _ _ _ h => ⟨_, h⟩, fun _ _ h => h, fun _ _ _ => rfl, fun _ _ _ => rfl⟩


theorem HLe.isRoot (h : HLe g H g' H') {T : Nat} (hT : g.sn T = true) (hr : (H' T).isRoot = true) : (H T).isRoot = true := by
  obtain ⟨e, rows, he⟩ := isRoot_spec hr
  obtain ⟨rows', h'⟩ := h.root T e rows hT he
  simp [h', Ent.isRoot]

theorem HLe.trans {g g' g'' : Gh} {H H' H'' : Heap} (h : HLe g H g' H') (k : HLe g' H' g'' H'') : HLe g H g'' H'' := by
  refine ⟨fun T hT => k.sn T (h.sn T hT), fun T e rows hT hr => ?_, fun T hT hr => ?_, fun T hT hr => ?_, fun T hT hr => ?_⟩
  · obtain ⟨r1, h1⟩ := k.root T e rows (h.sn T hT) hr
    exact h.root T e r1 hT h1
  · exact h.live T hT (k.live T (h.sn T hT) hr)
  · have h1 := k.isRoot (h.sn T hT) hr
    exact (k.hd T (h.sn T hT) hr).trans (h.hd T hT h1)
  · have h1 := k.live T (h.sn T hT) hr
    exact (k.bx T (h.sn T hT) hr).trans (h.bx T hT h1)

theorem crel_mono (h : HLe g H g' H') {x : VV} {v : Value} (hx : CRel P E H g x v) : CRel P E H' g' x v := by
  cases x <;> try exact hx
  case rf T n =>
    obtain ⟨h1, h0', h2⟩ := hx
    exact ⟨h.sn _ h1, h0', fun hr => by rw [h.hd T h1 hr]; exact h2 (h.isRoot h1 hr)⟩
  case bp T j =>
    obtain ⟨h1, h0', h2⟩ := hx
    exact ⟨h.sn _ h1, h0', fun hr => by rw [h.bx T h1 hr]; exact h2 (h.live T h1 hr)⟩
  case bs T j n e =>
    obtain ⟨h1, h0', h3, h2⟩ := hx
    exact ⟨h.sn _ h1, h0', h3, fun hr => by rw [h.bx T h1 hr]; exact h2 (h.live T h1 hr)⟩
  case np T i j =>
    obtain ⟨h1, h0', h2⟩ := hx
    refine ⟨h.sn _ h1, h0', fun e rows hr => ?_⟩
    obtain ⟨rows0, h0⟩ := h.root T e rows h1 hr
    obtain ⟨b, n, c, h3, h4⟩ := h2 e rows0 h0
    exact ⟨b, n, c, by rw [h.hd T h1 (by simp [hr, Ent.isRoot])]; exact h3, h4⟩
  case clo f caps =>
    obtain ⟨cs, h1, h2, h3⟩ := hx
    refine ⟨cs, h1, h2, fun j c u hc hu => ?_⟩
    have := h3 j c u hc hu
    cases c <;> try exact this
    case bp T j =>
      obtain ⟨k1, k2, k3⟩ := this
      exact ⟨h.sn _ k1, k2, fun hr => by rw [h.bx _ k1 hr]; exact k3 (h.live _ k1 hr)⟩

theorem arel_eq {x : VV} {v : Value} (h : ∀ vs, x ≠ .agg vs) : ARel P E H g x v = CRel P E H g x v := by
  cases x <;> first | rfl | exact absurd rfl (h _)
theorem vrel_eq {x : VV} {v : Value} (h : ∀ vs, x ≠ .tup vs) : VRel P E H g x v = ARel P E H g x v := by
  cases x <;> first | rfl | exact absurd rfl (h _)

theorem arel_mono (h : HLe g H g' H') {x : VV} {v : Value} (hx : ARel P E H g x v) : ARel P E H' g' x v := by
  by_cases ha : ∃ vs, x = .agg vs
  · obtain ⟨vs, rfl⟩ := ha
    obtain ⟨cs, h1, h2, h3⟩ := hx
    exact ⟨cs, h1, h2, fun j c u hj hu => crel_mono h (h3 j c u hj hu)⟩
  · rw [arel_eq (fun vs e => ha ⟨vs, e⟩)] at hx ⊢
    exact crel_mono h hx

theorem vrel_mono (h : HLe g H g' H') {x : VV} {v : Value} (hx : VRel P E H g x v) : VRel P E H' g' x v := by
  by_cases ha : ∃ vs, x = .tup vs
  · obtain ⟨vs, rfl⟩ := ha
    obtain ⟨cs, h1, h2, h3⟩ := hx
    exact ⟨cs, h1, h2, fun j c u hj hu => arel_mono h (h3 j c u hj hu)⟩
  · rw [vrel_eq (fun vs e => ha ⟨vs, e⟩)] at hx ⊢
    exact arel_mono h hx

theorem ocell_mono (h : HLe g H g' H') {c : PT} {x u : Value} (ho : ocell P E H g c x u) : ocell P E H' g' c x u := by
  cases c <;> try exact ho
  case ref T n =>
    obtain ⟨h1, h0', h2⟩ := ho
    exact ⟨h.sn _ h1, h0', fun hr => by rw [h.hd T h1 hr]; exact h2 (h.isRoot h1 hr)⟩

/-- A slice that nobody has touched. -/
theorem node_mono (h : HLe g H g' H') {T : Nat} {p : Path} {e : TypeId} {rows : List (List PT)} (hn : NodeOK P E H g w T p e rows)
    (hhd : ∀ q, g'.hd T q = g.hd T q) (hown : ∀ b, b < w.heap.size → g.own b = some (T, p) → g'.own b = some (T, p)) (hw : ∀ b, b < w.heap.size → g.own b = some (T, p) → w'.heap[b]? = w.heap[b]?) : NodeOK P E H' g' w' T p e rows := by
  rcases hn with ⟨h1, h2⟩ | ⟨b, cap, cur, h1, h2, h3, h4, h5, h6, h7, h8⟩
  · exact .inl ⟨by rw [hhd]; exact h1, h2⟩
  · have hlt : b < w.heap.size := (Array.getElem?_eq_some_iff.1 h4).1
    refine .inr ⟨b, cap, cur, by rw [hhd]; exact h1, hown b hlt h2, h3, by rw [hw b hlt h2]; exact h4, h5, h6, h7, fun i r hr => ?_⟩
    obtain ⟨h9, h10⟩ := h8 i r hr
    refine ⟨h9, fun j c hc => ?_⟩
    obtain ⟨u, h11, h12⟩ := h10 j c hc
    exact ⟨u, h11, by rw [hhd]; exact ocell_mono h h12⟩

/-- A variable that nobody has touched. -/
theorem box_mono (h : HLe g H g' H') {T : Nat} {cs : List VV} (hb : BoxOK P E H g w T cs) (hbx : g'.bx T = g.bx T) (hown : g.own (g.bx T).1 = none → g'.own (g.bx T).1 = none)
    (hob : ∀ o j, g.ob (g.bx T).1 o = some (T, j) → g'.ob (g.bx T).1 o = some (T, j))
    (hw : ∀ cur e, w.heap[(g.bx T).1]? = some (.cells cur e (0, 0)) → ∃ cur', w'.heap[(g.bx T).1]? = some (.cells cur' e (0, 0)) ∧ ∀ o j, g.ob (g.bx T).1 o = some (T, j) → cur'[o]? = cur[o]?) :
    BoxOK P E H' g' w' T cs := by
  obtain ⟨cur, e, h1, h2, h3⟩ := hb
  obtain ⟨cur', h4, h5⟩ := hw cur e h1
  refine ⟨cur', e, by rw [hbx]; exact h4, by rw [hbx]; exact hown h2, fun j c hj => ?_⟩
  obtain ⟨h6, h7, u, h8, h9⟩ := h3 j c hj
  rw [hbx]
  exact ⟨hob _ _ h6, h7, u, by rw [h5 _ _ h6]; exact h8, crel_mono h h9⟩

/-! ### The frame -/
theorem Frm.refl (E : Env) : Frm E E.w0 := ⟨rfl, rfl, rfl, Nat.le_refl _, fun b c e fz h => ⟨c, h, rfl, fun _ _ => rfl⟩, fun b x h _ => h⟩

/-- A step that turns no block that was there, but those that are the call's own. -/
theorem Frm.step (h : Frm E w) (os : w'.os = w.os) (tape : w'.tape = w.tape) (output : w'.output = w.output) (size : w.heap.size ≤ w'.heap.size)
    (hb : ∀ b, b < E.w0.heap.size → w'.heap[b]? = w.heap[b]? ∨ ∃ c e c' , w.heap[b]? = some (.cells c e (0, 0)) ∧ w'.heap[b]? = some (.cells c' e (0, 0)) ∧ c'.size = c.size ∧ ∀ o, ¬ E.own b o → c'[o]? = c[o]?) : Frm E w' := by
  refine ⟨os.trans h.os, tape.trans h.tape, output.trans h.output, Nat.le_trans h.size size, fun b c e fz hc => ?_, fun b x hx hn => ?_⟩
  · have hlt : b < E.w0.heap.size := (Array.getElem?_eq_some_iff.1 hc).1
    obtain ⟨c1, h1, h2, h3⟩ := h.cells b c e fz hc
    rcases hb b hlt with h4 | ⟨c2, e2, c3, h4, h5, h6, h7⟩
    · exact ⟨c1, h4.trans h1, h2, h3⟩
    · rw [h1] at h4
      injection h4 with h4
      injection h4 with e1 e2 e3
      subst e1; subst e2; subst e3
      exact ⟨c3, h5, h6.trans h2, fun o ho => (h7 o ho).trans (h3 o ho)⟩
  · have hlt : b < E.w0.heap.size := (Array.getElem?_eq_some_iff.1 hx).1
    have h1 := h.other b x hx hn
    rcases hb b hlt with h4 | ⟨c2, e2, c3, h4, _⟩
    · exact h4.trans h1
    · rw [h1] at h4
      injection h4 with h4
      exact absurd h4 (hn _ _ _)

theorem Frm.alloc (h : Frm E w) (o : Obj) : Frm E (w.alloc o) :=
  h.step rfl rfl rfl (by simp) fun b hb => .inl (Below.heap_alloc w o b (by have := h.size; omega))
theorem Frm.drew (h : Frm E w) : Frm E w.drew := ⟨h.os, h.tape, h.output, h.size, h.cells, h.other⟩
theorem Frm.grown (h : Frm E w) {row : Option Nat} (hg : w.grownBy w' row) (hr : ∀ b, row = some b → E.w0.heap.size ≤ b) : Frm E w' :=
  h.step hg.os hg.tape hg.output hg.size fun b hb => .inl (hg.block b (by have := h.size; omega) (fun e => by have := hr b e.symm; omega))

theorem node_lt {T : Nat} {p : Path} {e : TypeId} {rows : List (List PT)} (hn : NodeOK P E H g w T p e rows) {b n c : Nat} {ad : Option Nat} (hh : g.hd T p = .slice (some ⟨b, 0, ad⟩) n c) : b < w.heap.size ∧ g.own b = some (T, p) := by
  rcases hn with ⟨h1, h2⟩ | ⟨b', cap, cur, h1, h2, h3, h4, _⟩
  · rw [hh] at h1; cases h1
  · rw [hh] at h1
    injection h1 with e1
    injection e1 with e1
    injection e1 with e1
    subst e1
    exact ⟨(Array.getElem?_eq_some_iff.1 h4).1, h2⟩

theorem HRel.drew (h : HRel P E g H w) : HRel P E g H w.drew := ⟨h.frm.drew, h.node, h.box, h.seen⟩

theorem dead_of (h : HRel P E g H w) {X : Nat} (hX : g.sn X = false) : H X = .dead := by
  cases hx : H X with
  | dead => rfl
  | _ => have := h.seen X (by simp [hx, Ent.live]); rw [hX] at this; cases this

/-! ### A new variable -/
def Gh.box (g : Gh) (X b : Nat) : Gh :=
  { g with bx := fun T => if T = X then (b, 0) else g.bx T, own := fun x => if x = b then none else g.own x, ob := fun x o => if x = b then some (X, o) else g.ob x o, sn := fun T => if T = X then true else g.sn T }

theorem hle_new {e : Ent} {X : Nat} (hX : g.sn X = false) {g' : Gh} (hn : ∀ T, g.sn T = true → g'.sn T = true) (hh : ∀ T p, T ≠ X → g'.hd T p = g.hd T p) (hb : ∀ T, T ≠ X → g'.bx T = g.bx T) : HLe g H g' (updH X e H) := by
  have ne : ∀ T, g.sn T = true → T ≠ X := fun T h => by rintro rfl; rw [hX] at h; cases h
  refine ⟨hn, fun T e' rows hT h => ?_, fun T hT h => ?_, fun T hT _ => hh T [] (ne T hT), fun T hT _ => hb T (ne T hT)⟩
  · rw [updH_ne _ _ (ne T hT)] at h; exact ⟨rows, h⟩
  · rwa [updH_ne _ _ (ne T hT)] at h

theorem seen_new (h : HRel P E g H w) {X : Nat} {e : Ent} {g' : Gh} (hn : ∀ T, g.sn T = true → g'.sn T = true) (hX : g'.sn X = true) : ∀ T, (updH X e H T).live = true → g'.sn T = true := by
  intro T hT
  by_cases c : T = X
  · subst c; exact hX
  · rw [updH_ne _ _ c] at hT; exact hn T (h.seen T hT)

theorem hrel_box (h : HRel P E g H w) {X : Nat} (hX : g.sn X = false) (vs : List VV) (cs : List Value) (e : TypeId) (hl : cs.length = vs.length)
    (hc : ∀ (j : Nat) (c : VV) (u : Value), vs[j]? = some c → cs[j]? = some u → CRel P E H g c u) :
    HRel P E (g.box X w.heap.size) (updH X (.box vs) H) (w.alloc (.cells cs.toArray e)) ∧ HLe g H (g.box X w.heap.size) (updH X (.box vs) H) := by
  have hsn : ∀ T, g.sn T = true → (g.box X w.heap.size).sn T = true := fun T hT => by simp [Gh.box, hT]
  have hle : HLe g H (g.box X w.heap.size) (updH X (.box vs) H) :=
    hle_new hX hsn (fun T p hT => rfl) (fun T hT => by simp [Gh.box, hT])
  refine ⟨⟨h.frm.alloc _, fun T e' rows hT p e2 rows2 hp => ?_, fun T cs' hT => ?_, seen_new h hsn (by simp [Gh.box])⟩, hle⟩
  · have hne : T ≠ X := by rintro rfl; rw [updH_same] at hT; cases hT
    rw [updH_ne _ _ hne] at hT
    have hn := h.node T e' rows hT p e2 rows2 hp
    refine node_mono hle hn (fun q => rfl) (fun b hlt hb => ?_) (fun b hlt hb => Below.heap_alloc w _ b hlt)
    have : b ≠ w.heap.size := by omega
    simp [Gh.box, this, hb]
  · by_cases hne : T = X
    · subst hne
      rw [updH_same] at hT
      injection hT with hT
      subst hT
      refine ⟨cs.toArray, e, by simp only [Gh.box, if_true]; exact heap_alloc_new w _, by simp [Gh.box], fun j c hj => ?_⟩
      have hlt : j < cs.length := by
        rcases Nat.lt_or_ge j vs.length with h' | h'
        · omega
        · rw [List.getElem?_eq_none h'] at hj; cases hj
      refine ⟨by simp [Gh.box], .inl (by simp only [Gh.box, if_true]; exact h.frm.size), cs[j], by simp [Gh.box, hlt], ?_⟩
      exact crel_mono hle (hc j c _ hj (List.getElem?_eq_getElem hlt))
    · rw [updH_ne _ _ hne] at hT
      have hb := h.box T cs' hT
      have hlt : (g.bx T).1 < w.heap.size := by
        obtain ⟨cur, e1, h1, _⟩ := hb
        exact (Array.getElem?_eq_some_iff.1 h1).1
      have hx : (g.box X w.heap.size).bx T = g.bx T := by simp [Gh.box, hne]
      refine box_mono hle hb hx (fun hh => ?_) (fun o j hj => ?_) (fun cur e1 he => ⟨cur, ?_, fun _ _ _ => rfl⟩)
      · have : (g.bx T).1 ≠ w.heap.size := by omega
        simp [Gh.box, this, hh]
      · have : (g.bx T).1 ≠ w.heap.size := by omega
        simp [Gh.box, this, hj]
      · rw [Below.heap_alloc w _ _ hlt]; exact he
end
end Go.Proofs.Ytchkbgekmoileaa

/- The value-level engine, ninth part: a store into a variable, and into a slice of the call's own. -/
namespace Go.Proofs.Ytchkbgekmoileaa
open Go Go.RowKit
set_option linter.unusedVariables false
set_option linter.unusedSimpArgs false

/-- A list with vs written over it from j on. -/
def spl {α : Type} (l : List α) (j : Nat) (vs : List α) : List α := l.take j ++ vs ++ l.drop (j + vs.length)

theorem spl_length {α : Type} {l vs : List α} {j : Nat} (h : j + vs.length ≤ l.length) : (spl l j vs).length = l.length := by
  simp [spl]; omega
theorem spl_get {α : Type} {l vs : List α} {j : Nat} (h : j + vs.length ≤ l.length) (k : Nat) :
    (spl l j vs)[k]? = if k < j then l[k]? else if k < j + vs.length then vs[k - j]? else l[k]? := by
  simp only [spl, List.getElem?_append, List.length_append, List.length_take, List.getElem?_take, List.getElem?_drop]
  have h1 : min j l.length = j := by omega
  rw [h1]
  by_cases c1 : k < j
  · simp [c1, show k < j + vs.length by omega]
  · by_cases c2 : k < j + vs.length
    · simp [c1, c2]
    · simp only [c1, c2, if_false]
      congr 1
      omega

section
variable {P : Program} {E : Env} {g : Gh} {H : Heap} {w : World}

/-- Cells written into one block, all of them the call's own. -/
theorem frm_set (h : Frm E w) {b : Nat} {cur : Array Value} {e : TypeId} (hw : w.heap[b]? = some (.cells cur e (0, 0))) {o : Nat} {us : List Value} (hl : o + us.length ≤ cur.size)
    (hown : E.w0.heap.size ≤ b ∨ ∀ k, o ≤ k → k < o + us.length → E.own b k) : Frm E (w.setRow b (spl cur.toList o us).toArray) := by
  refine h.step rfl rfl rfl (by simp) fun b' hb' => ?_
  by_cases hne : b' = b
  · subst hne
    refine .inr ⟨cur, e, (spl cur.toList o us).toArray, hw, setRow_heap w b' cur _ e (0, 0) hw, by simp [spl_length (l := cur.toList) (j := o) (vs := us) (by simpa using hl)], fun k hk => ?_⟩
    have := spl_get (l := cur.toList) (j := o) (vs := us) (by simpa using hl) k
    simp only [List.getElem?_toArray, this, Array.getElem?_toList]
    split
    · rfl
    · rename_i c1
      split
      · rename_i c2
        rcases hown with h1 | h1
        · omega
        · exact absurd (h1 k (by omega) c2) hk
      · rfl
  · exact .inl (setRow_other w b b' _ hne)

theorem crel_one {H : Heap} {x : VV} {v : Value} (hx : CRel P E H g x v) (hn : x ≠ .any) : v.oneCell' = true := by
  cases x <;> try (first | exact hx.elim | (rw [hx]; rfl) | exact absurd rfl hn)
  case fr e rows =>
    obtain ⟨fh, hfh, hn⟩ := hx
    obtain ⟨A, cap, hv, _⟩ := hn [] e rows rfl
    rw [hfh] at hv
    rw [hv]; rfl
  case rf T n => exact hx.2.1
  case bp T n => exact hx.2.1
  case np T i j => exact hx.2.1
  case bs T j n e => exact hx.2.1
  case fp row => obtain ⟨b, o, rfl, _⟩ := hx; rfl
  case err b =>
    cases b with
    | true => obtain ⟨t, x, rfl⟩ := hx; rfl
    | false => obtain rfl : v = _ := hx; rfl
  case clo f caps =>
    obtain ⟨cs, rfl, _⟩ := hx
    rfl

theorem hle_same {e : Ent} {T : Nat} (hl : (H T).live = true) (hr : ∀ t rows, e = .root t rows → ∃ rows', H T = .root t rows') : HLe g H g (updH T e H) := by
  refine ⟨fun _ h => h, fun X e' rows hX h => ?_, fun X hX h => ?_, fun X hX _ => rfl, fun X hX _ => rfl⟩
  · by_cases hx : X = T
    · subst hx; rw [updH_same] at h; exact hr e' rows h
    · rw [updH_ne _ _ hx] at h; exact ⟨rows, h⟩
  · by_cases hx : X = T
    · subst hx; exact hl
    · rwa [updH_ne _ _ hx] at h

theorem seen_same (h : HRel P E g H w) {T : Nat} {e : Ent} (hT : (H T).live = true) : ∀ X, (updH T e H X).live = true → g.sn X = true := by
  intro X hX
  by_cases c : X = T
  · subst c; exact h.seen X hT
  · rw [updH_ne _ _ c] at hX; exact h.seen X hX

/-- A store into a variable. -/
theorem hrel_store_box (h : HRel P E g H w) {T : Nat} {cs : List VV} (hT : H T = .box cs) {j : Nat} {vs : List VV} (hj : j + vs.length ≤ cs.length) (h0 : 0 < vs.length) {us : List Value} (hl : us.length = vs.length)
    (hc : ∀ (k : Nat) (c : VV) (u : Value), vs[k]? = some c → us[k]? = some u → CRel P E H g c u) :
    ∃ cur e, w.heap[(g.bx T).1]? = some (.cells cur e (0, 0)) ∧ (g.bx T).2 + j + us.length ≤ cur.size ∧
      HRel P E g (updH T (.box (spl cs j vs)) H) (w.setRow (g.bx T).1 (spl cur.toList ((g.bx T).2 + j) us).toArray) := by
  have hbox := h.box T cs hT
  obtain ⟨cur, e, hw, hown, hcell⟩ := hbox
  have hsz : (g.bx T).2 + j + us.length ≤ cur.size := by
    obtain ⟨_, _, u, hu, _⟩ := hcell (j + us.length - 1) cs[j + us.length - 1] (List.getElem?_eq_getElem (by omega))
    have := (Array.getElem?_eq_some_iff.1 hu).1
    omega
  have hsz' : (g.bx T).2 + j + us.length ≤ cur.toList.length := by simpa using hsz
  have hsp := spl_get hsz'
  have hle : HLe g H g (updH T (.box (spl cs j vs)) H) := hle_same (by simp [hT, Ent.live]) (fun t rows h => by cases h)
  -- a cell that is this variable's
  have hmine : ∀ k, (g.bx T).2 + j ≤ k → k < (g.bx T).2 + j + us.length → g.ob (g.bx T).1 k = some (T, k - (g.bx T).2) ∧ (E.w0.heap.size ≤ (g.bx T).1 ∨ E.own (g.bx T).1 k) := by
    intro k hk1 hk2
    obtain ⟨h1, h2, _⟩ := hcell (k - (g.bx T).2) cs[k - (g.bx T).2] (List.getElem?_eq_getElem (by omega))
    rw [show (g.bx T).2 + (k - (g.bx T).2) = k by omega] at h1 h2
    exact ⟨h1, h2⟩
  refine ⟨cur, e, hw, hsz, ?_, fun X e' rows hX p e2 rows2 hp => ?_, fun X cs' hX => ?_, seen_same h (by simp [hT, Ent.live])⟩
  · refine frm_set h.frm hw hsz ?_
    rcases Nat.lt_or_ge (g.bx T).1 E.w0.heap.size with hlt | hge
    · right
      intro k hk1 hk2
      rcases (hmine k hk1 hk2).2 with h1 | h1
      · omega
      · exact h1
    · exact .inl hge
  · have hne : X ≠ T := by rintro rfl; rw [updH_same] at hX; cases hX
    rw [updH_ne _ _ hne] at hX
    refine node_mono hle (h.node X e' rows hX p e2 rows2 hp) (fun _ => rfl) (fun _ _ hb => hb) (fun b _ hb => setRow_other w _ b _ ?_)
    rintro rfl
    rw [hown] at hb
    cases hb
  · by_cases hne : X = T
    · subst hne
      rw [updH_same] at hX
      injection hX with hX
      subst hX
      refine ⟨_, e, setRow_heap w _ cur _ e (0, 0) hw, hown, fun k c hk => ?_⟩
      have hsc := spl_get (l := cs) (j := j) (vs := vs) hj k
      rw [hsc] at hk
      simp only [List.getElem?_toArray, hsp]
      by_cases c1 : k < j
      · rw [if_pos c1] at hk
        obtain ⟨h1, h2, u, h3, h4⟩ := hcell k c hk
        refine ⟨h1, h2, u, ?_, crel_mono hle h4⟩
        rw [if_pos (by omega), Array.getElem?_toList]
        exact h3
      · rw [if_neg c1] at hk
        by_cases c2 : k < j + vs.length
        · rw [if_pos c2] at hk
          obtain ⟨h1, h2⟩ := hmine ((g.bx X).2 + k) (by omega) (by omega)
          rw [show (g.bx X).2 + k - (g.bx X).2 = k by omega] at h1
          have hlt : k - j < us.length := by omega
          refine ⟨h1, h2, us[k - j], ?_, crel_mono hle (hc (k - j) c _ hk (List.getElem?_eq_getElem hlt))⟩
          rw [if_neg (by omega), if_pos (by omega), show (g.bx X).2 + k - ((g.bx X).2 + j) = k - j by omega]
          exact List.getElem?_eq_getElem hlt
        · rw [if_neg c2] at hk
          obtain ⟨h1, h2, u, h3, h4⟩ := hcell k c hk
          refine ⟨h1, h2, u, ?_, crel_mono hle h4⟩
          rw [if_neg (by omega), if_neg (by omega), Array.getElem?_toList]
          exact h3
    · rw [updH_ne _ _ hne] at hX
      refine box_mono hle (h.box X cs' hX) rfl (fun hh => hh) (fun _ _ hh => hh) (fun cur1 e1 he1 => ?_)
      by_cases hb : (g.bx X).1 = (g.bx T).1
      · rw [hb] at he1 ⊢
        rw [hw] at he1
        injection he1 with he1
        injection he1 with e1 e2
        subst e1; subst e2
        refine ⟨_, setRow_heap w _ cur _ e (0, 0) hw, fun o k hk => ?_⟩
        simp only [List.getElem?_toArray, hsp, Array.getElem?_toList]
        split
        · rfl
        · split
          · rename_i c1 c2
            obtain ⟨h1, _⟩ := hmine o (by omega) c2
            rw [hk] at h1
            injection h1 with h1
            injection h1 with h1
            exact absurd h1 hne
          · rfl
      · exact ⟨cur1, by rw [setRow_other w _ _ _ hb]; exact he1, fun _ _ _ => rfl⟩

/-! ### A store into a row of the call's own: numbers, bools, strings, and what other tokens stand for -/
def VV.cell : VV → Option PT
  | .int k n => some (.int k n)
  | .bool b => some (.bool b)
  | .str s => some (.str s)
  | .rf T n => some (.ref T n)
  | _ => none

theorem cell_ocell {x : VV} {c : PT} (hx : x.cell = some c) {u hh : Value} (hc : CRel P E H g x u) : ocell P E H g c hh u := by
  cases x <;> simp [VV.cell] at hx <;> subst hx <;> exact hc
theorem cell_plain {x : VV} {c : PT} (hx : x.cell = some c) : ∀ e rows, c ≠ PT.list e rows := by
  cases x <;> simp [VV.cell] at hx <;> subst hx <;> intro e rows h <;> cases h

/-- Below a row that was written over by plain cells, nothing is new. -/
theorem At_set {e : TypeId} {rows : List (List PT)} {i j : Nat} {r ps : List PT} (hr : rows[i]? = some r) (hj : j + ps.length ≤ r.length) (hps : ∀ (k : Nat) (c : PT), ps[k]? = some c → ∀ e rows, c ≠ PT.list e rows)
    {p : Path} {x : Nat × Nat} {z : TypeId × List (List PT)} (h : At (x :: p) (.list e (rows.set i (spl r j ps))) = some z) :
    At (x :: p) (.list e rows) = some z ∧ ¬ (x.1 = i ∧ j ≤ x.2 ∧ x.2 < j + ps.length) := by
  obtain ⟨a, b⟩ := x
  simp only [At] at h ⊢
  by_cases ha : a = i
  · subst ha
    have hlt : a < rows.length := (List.getElem?_eq_some_iff.1 hr).1
    rw [List.getElem?_set_self hlt] at h
    simp only [Option.getD_some, spl_get hj] at h
    rw [hr]
    simp only [Option.getD_some]
    by_cases c1 : b < j
    · rw [if_pos c1] at h; exact ⟨h, by omega⟩
    · rw [if_neg c1] at h
      by_cases c2 : b < j + ps.length
      · rw [if_pos c2] at h
        cases hk : ps[b - j]? with
        | none => rw [hk] at h; cases h
        | some c =>
          rw [hk] at h
          have := hps _ c hk
          cases c with
          | list e2 rows2 => exact absurd rfl (this _ _)
          | _ => cases p <;> simp [At] at h
      · rw [if_neg c2] at h; exact ⟨h, by omega⟩
  · rw [List.getElem?_set_ne (Ne.symm ha)] at h
    exact ⟨h, fun hh => ha hh.1⟩

theorem hrel_store_root (h : HRel P E g H w) {T : Nat} {e : TypeId} {rows : List (List PT)} (hT : H T = .root e rows) {i j : Nat} {r : List PT} (hr : rows[i]? = some r) {ps : List PT} (hj : j + ps.length ≤ r.length) (h0 : 0 < ps.length)
    (hps : ∀ (k : Nat) (c : PT), ps[k]? = some c → ∀ e rows, c ≠ PT.list e rows) {us : List Value} (hl : us.length = ps.length) (hc : ∀ (k : Nat) (c : PT) (u hh : Value), ps[k]? = some c → us[k]? = some u → ocell P E H g c hh u) :
    ∃ b n cap cur, g.hd T [] = .slice (some ⟨b, 0, none⟩) n cap ∧ w.heap[b]? = some (.cells cur e (0, 0)) ∧ i * P.cellsOf e + j + us.length ≤ cur.size ∧
      HRel P E g (updH T (.root e (rows.set i (spl r j ps))) H) (w.setRow b (spl cur.toList (i * P.cellsOf e + j) us).toArray) := by
  have hlt : i < rows.length := (List.getElem?_eq_some_iff.1 hr).1
  rcases h.node T e rows hT [] e rows rfl with ⟨_, hn⟩ | ⟨b, cap, cur, h1, h2, h3, h4, h5, h6, h7, h8⟩
  · subst hn; simp at hlt
  obtain ⟨hrl, hcell⟩ := h8 i r hr
  have hsz : i * P.cellsOf e + j + us.length ≤ cur.size := by
    have : (i + 1) * P.cellsOf e ≤ cap * P.cellsOf e := Nat.mul_le_mul_right _ (by omega)
    rw [Nat.add_mul] at this
    omega
  have hsz' : i * P.cellsOf e + j + us.length ≤ cur.toList.length := by simpa using hsz
  have hsp := spl_get hsz'
  have hle : HLe g H g (updH T (.root e (rows.set i (spl r j ps))) H) := hle_same (by simp [hT, Ent.live]) (fun t rows' hh => by injection hh with e1 e2; subst e1; exact ⟨rows, hT⟩)
  refine ⟨b, _, cap, cur, h1, h4, hsz, ?_, fun X e' rows' hX p e2 rows2 hp => ?_, fun X cs' hX => ?_, seen_same h (by simp [hT, Ent.live])⟩
  · refine frm_set h.frm h4 hsz ?_
    rcases h3 with h3 | h3
    · exact .inl h3
    · exact .inr fun k _ _ => h3 k
  · by_cases hne : X = T
    · subst hne
      rw [updH_same] at hX
      injection hX with e1 e3
      subst e1
      subst e3
      cases p with
      | nil =>
        simp only [At, Option.some.injEq, Prod.mk.injEq] at hp
        obtain ⟨rfl, rfl⟩ := hp
        refine .inr ⟨b, cap, _, by simpa using h1, h2, h3, setRow_heap w b cur _ e (0, 0) h4, by simpa using h5, h6, by simp [spl_length hsz', h7], fun a ra hra => ?_⟩
        have hk : ∀ (k : Nat), (spl cur.toList (i * P.cellsOf e + j) us).toArray[k]? = if k < i * P.cellsOf e + j then cur[k]? else if k < i * P.cellsOf e + j + us.length then us[k - (i * P.cellsOf e + j)]? else cur[k]? := by
          intro k
          simp only [List.getElem?_toArray, hsp, Array.getElem?_toList]
        by_cases ha : a = i
        · subst ha
          rw [List.getElem?_set_self hlt] at hra
          injection hra with hra
          subst hra
          refine ⟨by rw [spl_length hj]; exact hrl, fun k c hc' => ?_⟩
          rw [spl_get hj] at hc'
          rw [hk]
          by_cases c1 : k < j
          · rw [if_pos c1] at hc'
            obtain ⟨u, hu1, hu2⟩ := hcell k c hc'
            exact ⟨u, by rw [if_pos (by omega)]; exact hu1, ocell_mono hle hu2⟩
          · rw [if_neg c1] at hc'
            by_cases c2 : k < j + ps.length
            · rw [if_pos c2] at hc'
              have hlt' : k - j < us.length := by omega
              refine ⟨us[k - j], ?_, ocell_mono hle (hc (k - j) c _ _ hc' (List.getElem?_eq_getElem hlt'))⟩
              rw [if_neg (by omega), if_pos (by omega), show a * P.cellsOf e + k - (a * P.cellsOf e + j) = k - j by omega]
              exact List.getElem?_eq_getElem hlt'
            · rw [if_neg c2] at hc'
              obtain ⟨u, hu1, hu2⟩ := hcell k c hc'
              exact ⟨u, by rw [if_neg (by omega), if_neg (by omega)]; exact hu1, ocell_mono hle hu2⟩
        · rw [List.getElem?_set_ne (Ne.symm ha)] at hra
          obtain ⟨g1, g2⟩ := h8 a ra hra
          refine ⟨g1, fun k c hc' => ?_⟩
          obtain ⟨u, hu1, hu2⟩ := g2 k c hc'
          refine ⟨u, ?_, ocell_mono hle hu2⟩
          have hkl : k < P.cellsOf e := by
            rcases Nat.lt_or_ge k ra.length with h' | h'
            · omega
            · rw [List.getElem?_eq_none h'] at hc'; cases hc'
          rw [hk]
          rcases Nat.lt_or_gt_of_ne ha with hlt2 | hgt2
          · have : (a + 1) * P.cellsOf e ≤ i * P.cellsOf e := Nat.mul_le_mul_right _ hlt2
            rw [Nat.add_mul] at this
            rw [if_pos (by omega)]
            exact hu1
          · have : (i + 1) * P.cellsOf e ≤ a * P.cellsOf e := Nat.mul_le_mul_right _ hgt2
            rw [Nat.add_mul] at this
            rw [if_neg (by omega), if_neg (by omega)]
            exact hu1
      | cons x p =>
        obtain ⟨hp', _⟩ := At_set hr hj hps hp
        refine node_mono hle (h.node X e rows hT (x :: p) e2 rows2 hp') (fun _ => rfl) (fun _ _ hb => hb) (fun b' _ hb => setRow_other w _ b' _ ?_)
        rintro rfl
        rw [h2] at hb
        injection hb with hb
        injection hb with _ hb
        cases hb
    · rw [updH_ne _ _ hne] at hX
      refine node_mono hle (h.node X e' rows' hX p e2 rows2 hp) (fun _ => rfl) (fun _ _ hb => hb) (fun b' _ hb => setRow_other w _ b' _ ?_)
      rintro rfl
      rw [h2] at hb
      injection hb with hb
      injection hb with hb _
      exact hne hb.symm
  · have hne : X ≠ T := by rintro rfl; rw [updH_same] at hX; cases hX
    rw [updH_ne _ _ hne] at hX
    have hb := h.box X cs' hX
    have hbo : g.own (g.bx X).1 = none := by obtain ⟨_, _, _, h9, _⟩ := hb; exact h9
    refine box_mono hle hb rfl (fun hh => hh) (fun _ _ hh => hh) (fun cur1 e1 he1 => ⟨cur1, ?_, fun _ _ _ => rfl⟩)
    rw [setRow_other w _ _ _ (by rintro hh; rw [hh, h2] at hbo; cases hbo)]
    exact he1
end
end Go.Proofs.Ytchkbgekmoileaa

/- The value-level engine, tenth part: new slices: made, written out, appended to. -/
namespace Go.Proofs.Ytchkbgekmoileaa
open Go Go.RowKit
set_option linter.unusedVariables false
set_option linter.unusedSimpArgs false

/-- A new slice, in the place of the slice T: what lay under T's elements lies under its own. -/
def Gh.grow (g : Gh) (Y T : Nat) (nb : Option Nat) (v : Value) : Gh :=
  { g with
    hd := fun X p => if X = Y then (if p = [] then v else g.hd T p) else g.hd X p
    own := fun b => if nb = some b then some (Y, []) else match g.own b with
      | some (X, p) => if X = T then some (Y, p) else some (X, p)
      | none => none
    sn := fun X => if X = Y then true else g.sn X }

section
variable {P : Program} {E : Env} {g : Gh} {H : Heap} {w w' : World}

theorem own_root_lt (h : HRel P E g H w) {T : Nat} {e : TypeId} {rows : List (List PT)} (hT : H T = .root e rows) : g.sn T = true := h.seen T (by simp [hT, Ent.live])

theorem At_app {e : TypeId} {rows ns : List (List PT)} {n : Nat} (hn : n ≤ rows.length) (hns : ∀ r ∈ ns, ∀ c ∈ r, ∀ e rows, c ≠ PT.list e rows)
    {x : Nat × Nat} {p : Path} {z : TypeId × List (List PT)} (h : At (x :: p) (.list e (rows.take n ++ ns)) = some z) : At (x :: p) (.list e rows) = some z := by
  obtain ⟨i, j⟩ := x
  simp only [At] at h ⊢
  rw [List.getElem?_append] at h
  split at h
  · rename_i hlt
    rw [List.getElem?_take] at h
    split at h
    · exact h
    · simp at h
  · cases hr : ns[i - (rows.take n).length]? with
    | none => rw [hr] at h; simp at h
    | some r =>
      rw [hr] at h
      simp only [Option.getD_some] at h
      cases hc : r[j]? with
      | none => rw [hc] at h; simp at h
      | some c =>
        rw [hc] at h
        simp only [Option.bind_some] at h
        have := hns r (List.mem_of_getElem? hr) c (List.mem_of_getElem? hc)
        cases c with
        | list e2 rows2 => exact absurd rfl (this _ _)
        | _ => cases p <;> simp [At] at h

theorem At_root_some {e : TypeId} {rows : List (List PT)} {p : Path} {e2 : TypeId} {rows2 : List (List PT)} (h : At p (.list e rows) = some (e2, rows2)) : (p = [] ∧ e2 = e ∧ rows2 = rows) ∨ ∃ x q, p = x :: q := by
  cases p with
  | nil => simp only [At, Option.some.injEq, Prod.mk.injEq] at h; exact .inl ⟨rfl, h.1.symm, h.2.symm⟩
  | cons x q => exact .inr ⟨x, q, rfl⟩

/-- A new slice out of the slice T (which is gone behind it) and rows without slices of their own. -/
theorem hrel_grow (h : HRel P E g H w) {Y : Nat} (hY : g.sn Y = false) {T : Nat} {e : TypeId} {rows : List (List PT)} (hT : H T = .root e rows) {n : Nat} (hn : n ≤ rows.length) {ns : List (List PT)}
    (hns : ∀ r ∈ ns, ∀ c ∈ r, ∀ e rows, c ≠ PT.list e rows) {v : Value} {nb : Nat} {cap : Nat} {cur' : Array Value} (hv : v = .slice (some ⟨nb, 0, none⟩) (n + ns.length) cap)
    (hfr : Frm E w') (hnb : w'.heap[nb]? = some (.cells cur' e (0, 0))) (hoth : ∀ b, b < w.heap.size → b ≠ nb → w'.heap[b]? = w.heap[b]?) (hwhere : nb = w.heap.size ∨ g.own nb = some (T, []))
    (hpl : E.w0.heap.size ≤ nb ∨ ∀ o, E.own nb o) (hcap : n + ns.length ≤ cap) (hmax : cap ≤ maxLen) (hsz : cur'.size = cap * P.cellsOf e)
    (hold : ∀ i r, i < n → rows[i]? = some r → ∀ (j : Nat), j < P.cellsOf e → ∀ cur b m c, g.hd T [] = .slice (some ⟨b, 0, none⟩) m c → w.heap[b]? = some (.cells cur e (0, 0)) → cur'[i * P.cellsOf e + j]? = cur[i * P.cellsOf e + j]?)
    (hnew : ∀ i r, ns[i]? = some r → r.length = P.cellsOf e ∧ ∀ j c, r[j]? = some c → ∃ u, cur'[(n + i) * P.cellsOf e + j]? = some u ∧ ∀ hh, ocell P E H g c hh u) :
    HRel P E (g.grow Y T (some nb) v) (updH Y (.root e (rows.take n ++ ns)) (updH T .dead H)) w' ∧
      CRel P E (updH Y (.root e (rows.take n ++ ns)) (updH T .dead H)) (g.grow Y T (some nb) v) (.rf Y (n + ns.length)) v := by
  have hTlt := own_root_lt h hT
  have hne : ∀ X, g.sn X = true → X ≠ Y := fun X hX hh => by rw [hh, hY] at hX; cases hX
  have hsn : ∀ X, g.sn X = true → (g.grow Y T (some nb) v).sn X = true := fun X hX => by simp [Gh.grow, hX]
  have hle : HLe g H (g.grow Y T (some nb) v) (updH Y (.root e (rows.take n ++ ns)) (updH T .dead H)) := by
    refine ⟨hsn, fun X e' rows' hX hh => ?_, fun X hX hh => ?_, fun X hX _ => ?_, fun X hX _ => rfl⟩
    · rw [updH_ne _ _ (hne X hX)] at hh
      by_cases c1 : X = T
      · subst c1; rw [updH_same] at hh; cases hh
      · rw [updH_ne _ _ c1] at hh; exact ⟨_, hh⟩
    · rw [updH_ne _ _ (hne X hX)] at hh
      by_cases c1 : X = T
      · subst c1; rw [updH_same] at hh; cases hh
      · rwa [updH_ne _ _ c1] at hh
    · simp only [Gh.grow]
      rw [if_neg (hne X hX)]
  have hlen : (rows.take n ++ ns).length = n + ns.length := by simp; omega
  have hroot := h.node T e rows hT [] e rows rfl
  refine ⟨⟨hfr, fun X e' rows' hX p e2 rows2 hp => ?_, fun X cs' hX => ?_, fun X hX => ?_⟩, ?_⟩
  · by_cases c1 : X = Y
    · have c1 := c1.symm
      subst c1
      rw [updH_same] at hX
      injection hX with e1 e3
      subst e1
      subst e3
      rcases At_root_some hp with ⟨rfl, rfl, rfl⟩ | ⟨x, q, rfl⟩
      · refine .inr ⟨nb, cap, cur', by simp [Gh.grow, hv, hlen], by simp [Gh.grow], hpl, hnb, by rw [hlen]; exact hcap, hmax, hsz, fun i r hr => ?_⟩
        rw [List.getElem?_append] at hr
        split at hr
        · rename_i hlt
          rw [List.getElem?_take] at hr
          split at hr
          · rename_i hin
            rcases hroot with ⟨_, h0⟩ | ⟨b, cap0, cur, h1, h2, h3, h4, h5, h6, h7, h8⟩
            · subst h0; simp at hr
            · obtain ⟨h9, h10⟩ := h8 i r hr
              refine ⟨h9, fun j c hc => ?_⟩
              obtain ⟨u, h11, h12⟩ := h10 j c hc
              have hjl : j < P.cellsOf e2 := by
                rcases Nat.lt_or_ge j r.length with h' | h'
                · omega
                · rw [List.getElem?_eq_none h'] at hc; cases hc
              refine ⟨u, by rw [hold i r hin hr j hjl cur b _ _ h1 h4]; exact h11, ?_⟩
              have hh : (g.grow Y T (some nb) v).hd Y ([] ++ [(i, j)]) = g.hd T ([] ++ [(i, j)]) := by simp [Gh.grow]
              rw [hh]
              exact ocell_mono hle h12
          · cases hr
        · rename_i hge
          have hmin : (rows.take n).length = n := by simp; omega
          rw [hmin] at hr hge
          obtain ⟨h9, h10⟩ := hnew (i - n) r hr
          refine ⟨h9, fun j c hc => ?_⟩
          obtain ⟨u, h11, h12⟩ := h10 j c hc
          rw [show n + (i - n) = i by omega] at h11
          exact ⟨u, h11, ocell_mono hle (h12 _)⟩
      · have hp' := At_app hn hns hp
        have hnode := h.node T e rows hT (x :: q) e2 rows2 hp'
        rcases hnode with ⟨h1, h2⟩ | ⟨b, cap0, cur, h1, h2, h3, h4, h5, h6, h7, h8⟩
        · exact .inl ⟨by simp [Gh.grow]; exact h1, h2⟩
        · have hblt : b < w.heap.size := (Array.getElem?_eq_some_iff.1 h4).1
          have hbne : b ≠ nb := by
            rintro rfl
            rcases hwhere with hw | hw
            · omega
            · rw [hw] at h2; injection h2 with h2; injection h2 with _ h2; cases h2
          refine .inr ⟨b, cap0, cur, by simp [Gh.grow]; exact h1, ?_, h3, by rw [hoth b hblt hbne]; exact h4, h5, h6, h7, fun i r hr => ?_⟩
          · simp only [Gh.grow]
            rw [if_neg (by simpa using Ne.symm hbne), h2]
            simp
          · obtain ⟨h9, h10⟩ := h8 i r hr
            refine ⟨h9, fun j c hc => ?_⟩
            obtain ⟨u, h11, h12⟩ := h10 j c hc
            have hh : (g.grow Y T (some nb) v).hd Y (x :: q ++ [(i, j)]) = g.hd T (x :: q ++ [(i, j)]) := by simp [Gh.grow]
            refine ⟨u, h11, ?_⟩
            rw [hh]
            exact ocell_mono hle h12
    · rw [updH_ne _ _ c1] at hX
      by_cases c2 : X = T
      · subst c2; rw [updH_same] at hX; cases hX
      · rw [updH_ne _ _ c2] at hX
        have hbn : ∀ b, b < w.heap.size → g.own b = some (X, p) → b ≠ nb := by
          rintro b hb1 hb2 rfl
          rcases hwhere with hw | hw
          · omega
          · rw [hw] at hb2; injection hb2 with hb2; injection hb2 with hb2 _; exact c2 hb2.symm
        refine node_mono hle (h.node X e' rows' hX p e2 rows2 hp) (fun q => by simp [Gh.grow, c1]) (fun b hb1 hb2 => ?_) (fun b hb1 hb2 => hoth b hb1 (hbn b hb1 hb2))
        have := hbn b hb1 hb2
        simp only [Gh.grow]
        rw [if_neg (by simpa using Ne.symm this), hb2]
        simp [c2]
  · have c1 : X ≠ Y := by intro hh; rw [hh, updH_same] at hX; cases hX
    rw [updH_ne _ _ c1] at hX
    have c2 : X ≠ T := by rintro rfl; rw [updH_same] at hX; cases hX
    rw [updH_ne _ _ c2] at hX
    have hb := h.box X cs' hX
    obtain ⟨cur1, e1, hbw, hbo, _⟩ := hb
    have hblt : (g.bx X).1 < w.heap.size := (Array.getElem?_eq_some_iff.1 hbw).1
    have hbne : (g.bx X).1 ≠ nb := by
      intro hh
      rcases hwhere with hw | hw
      · omega
      · rw [hh, hw] at hbo; cases hbo
    refine box_mono hle (h.box X cs' hX) rfl (fun hh => ?_) (fun _ _ hh => hh) (fun cur2 e2 he2 => ⟨cur2, by rw [hoth _ hblt hbne]; exact he2, fun _ _ _ => rfl⟩)
    simp only [Gh.grow]
    rw [if_neg (by simpa using Ne.symm hbne), hh]
  · by_cases c1 : X = Y
    · simp [Gh.grow, c1]
    · rw [updH_ne _ _ c1] at hX
      by_cases c2 : X = T
      · subst c2; rw [updH_same] at hX; cases hX
      · rw [updH_ne _ _ c2] at hX; exact hsn X (h.seen X hX)
  · refine ⟨by simp [Gh.grow], by rw [hv]; rfl, fun _ => ?_⟩
    simp [Gh.grow, hv, cutv]

/-- A new slice in a new block; below it there are only empty slices that are nil. -/
def Gh.fresh (g : Gh) (Y : Nat) (nb : Option Nat) (v : Value) : Gh :=
  { g with
    hd := fun X p => if X = Y then (if p = [] then v else .slice none 0 0) else g.hd X p
    own := fun b => if nb = some b then some (Y, []) else g.own b
    sn := fun X => if X = Y then true else g.sn X }

def flatC : PT → Prop
  | .list _ rows => rows = []
  | _ => True

theorem At_flat {e : TypeId} {rows : List (List PT)} (hns : ∀ r ∈ rows, ∀ c ∈ r, flatC c) {x : Nat × Nat} {p : Path} {z : TypeId × List (List PT)} (h : At (x :: p) (.list e rows) = some z) : z.2 = [] := by
  obtain ⟨i, j⟩ := x
  simp only [At] at h
  cases hr : rows[i]? with
  | none => rw [hr] at h; simp at h
  | some r =>
    rw [hr] at h
    simp only [Option.getD_some] at h
    cases hc : r[j]? with
    | none => rw [hc] at h; simp at h
    | some c =>
      rw [hc] at h
      simp only [Option.bind_some] at h
      have := hns r (List.mem_of_getElem? hr) c (List.mem_of_getElem? hc)
      cases c with
      | list e2 rows2 =>
        have : rows2 = [] := this
        subst this
        cases p with
        | nil => simp only [At, Option.some.injEq] at h; rw [← h]
        | cons y q => obtain ⟨a, b⟩ := y; simp [At] at h
      | _ => cases p <;> simp [At] at h

theorem hrel_fresh (h : HRel P E g H w) {Y : Nat} (hY : g.sn Y = false) {e : TypeId} {rows : List (List PT)} (hfl : ∀ r ∈ rows, ∀ c ∈ r, flatC c) {cap : Nat} {cur : Array Value}
    (hcap : rows.length ≤ cap) (hmax : cap ≤ maxLen) (hsz : cur.size = cap * P.cellsOf e)
    (hnew : ∀ i r, rows[i]? = some r → r.length = P.cellsOf e ∧ ∀ j c, r[j]? = some c → ∃ u, cur[i * P.cellsOf e + j]? = some u ∧ ocell P E H g c (.slice none 0 0) u) :
    HRel P E (g.fresh Y (some w.heap.size) (.slice (some ⟨w.heap.size, 0, none⟩) rows.length cap)) (updH Y (.root e rows) H) (w.alloc (.cells cur e)) ∧
      CRel P E (updH Y (.root e rows) H) (g.fresh Y (some w.heap.size) (.slice (some ⟨w.heap.size, 0, none⟩) rows.length cap)) (.rf Y rows.length) (.slice (some ⟨w.heap.size, 0, none⟩) rows.length cap) := by
  have hle : HLe g H (g.fresh Y (some w.heap.size) (.slice (some ⟨w.heap.size, 0, none⟩) rows.length cap)) (updH Y (.root e rows) H) :=
    hle_new hY (fun T hT => by simp [Gh.fresh, hT]) (fun T p hT => by simp [Gh.fresh, hT]) (fun T hT => rfl)
  refine ⟨⟨h.frm.alloc _, fun X e' rows' hX p e2 rows2 hp => ?_, fun X cs' hX => ?_, seen_new h (fun T hT => by simp [Gh.fresh, hT]) (by simp [Gh.fresh])⟩, by simp [Gh.fresh], rfl, fun _ => by simp [Gh.fresh, cutv]⟩
  · by_cases c1 : X = Y
    · have c1 := c1.symm
      subst c1
      rw [updH_same] at hX
      injection hX with e1 e3
      subst e1
      subst e3
      rcases At_root_some hp with ⟨rfl, rfl, rfl⟩ | ⟨x, q, rfl⟩
      · refine .inr ⟨w.heap.size, cap, cur, by simp [Gh.fresh], by simp [Gh.fresh], .inl h.frm.size, heap_alloc_new w _, hcap, hmax, hsz, fun i r hr => ?_⟩
        obtain ⟨h9, h10⟩ := hnew i r hr
        refine ⟨h9, fun j c hc => ?_⟩
        obtain ⟨u, h11, h12⟩ := h10 j c hc
        refine ⟨u, h11, ?_⟩
        have hh : (g.fresh Y (some w.heap.size) (.slice (some ⟨w.heap.size, 0, none⟩) rows2.length cap)).hd Y ([] ++ [(i, j)]) = .slice none 0 0 := by simp [Gh.fresh]
        rw [hh]
        exact ocell_mono hle h12
      · exact .inl ⟨by simp [Gh.fresh], At_flat hfl hp⟩
    · rw [updH_ne _ _ c1] at hX
      refine node_mono hle (h.node X e' rows' hX p e2 rows2 hp) (fun q => by simp [Gh.fresh, c1]) (fun b hb1 hb2 => ?_) (fun b hb1 hb2 => Below.heap_alloc w _ b hb1)
      have : w.heap.size ≠ b := by omega
      simp [Gh.fresh, this, hb2]
  · have c1 : X ≠ Y := by intro hh; rw [hh, updH_same] at hX; cases hX
    rw [updH_ne _ _ c1] at hX
    have hb := h.box X cs' hX
    obtain ⟨cur1, e1, hbw, hbo, _⟩ := hb
    have hblt : (g.bx X).1 < w.heap.size := (Array.getElem?_eq_some_iff.1 hbw).1
    refine box_mono hle (h.box X cs' hX) rfl (fun hh => ?_) (fun _ _ hh => hh) (fun cur2 e2 he2 => ⟨cur2, by rw [Below.heap_alloc w _ _ hblt]; exact he2, fun _ _ _ => rfl⟩)
    have : w.heap.size ≠ (g.bx X).1 := by omega
    simp [Gh.fresh, this, hh]

/-- A token for the nil slice: nothing turns. -/
theorem hrel_nil (h : HRel P E g H w) {Y : Nat} (hY : g.sn Y = false) (e : TypeId) :
    HRel P E (g.fresh Y none (.slice none 0 0)) (updH Y (.root e []) H) w ∧ CRel P E (updH Y (.root e []) H) (g.fresh Y none (.slice none 0 0)) (.rf Y 0) (.slice none 0 0) := by
  have hle : HLe g H (g.fresh Y none (.slice none 0 0)) (updH Y (.root e []) H) :=
    hle_new hY (fun T hT => by simp [Gh.fresh, hT]) (fun T p hT => by simp [Gh.fresh, hT]) (fun T hT => rfl)
  refine ⟨⟨h.frm, fun X e' rows' hX p e2 rows2 hp => ?_, fun X cs' hX => ?_, seen_new h (fun T hT => by simp [Gh.fresh, hT]) (by simp [Gh.fresh])⟩, by simp [Gh.fresh], rfl, fun _ => by simp [Gh.fresh, cutv]⟩
  · by_cases c1 : X = Y
    · have c1 := c1.symm
      subst c1
      rw [updH_same] at hX
      injection hX with e1 e3
      subst e1
      subst e3
      rcases At_root_some hp with ⟨rfl, rfl, rfl⟩ | ⟨x, q, rfl⟩
      · exact .inl ⟨by simp [Gh.fresh], rfl⟩
      · obtain ⟨a, b⟩ := x
        simp [At] at hp
    · rw [updH_ne _ _ c1] at hX
      exact node_mono hle (h.node X e' rows' hX p e2 rows2 hp) (fun q => by simp [Gh.fresh, c1]) (fun b hb1 hb2 => by simpa [Gh.fresh] using hb2) (fun b hb1 hb2 => rfl)
  · have c1 : X ≠ Y := by intro hh; rw [hh, updH_same] at hX; cases hX
    rw [updH_ne _ _ c1] at hX
    exact box_mono hle (h.box X cs' hX) rfl (fun hh => by simpa [Gh.fresh] using hh) (fun _ _ hh => hh) (fun cur2 e2 he2 => ⟨cur2, he2, fun _ _ _ => rfl⟩)
end
end Go.Proofs.Ytchkbgekmoileaa

/- The value-level engine, eleventh part: what is built out of parts. -/
namespace Go.Proofs.Ytchkbgekmoileaa
open Go Go.RowKit
set_option linter.unusedVariables false
set_option linter.unusedSimpArgs false

/-- A value's cells. -/
def VV.cells : VV → Option (List VV)
  | .agg vs => some vs
  | .tup _ | .any => none
  | v => some [v]

/-- Each part over the cells at its place. -/
def vfill (place : Nat → Option (Nat × Nat)) (cs : List VV) : List (Nat × VV) → Option (List VV)
  | [] => some cs
  | (i, v) :: rest =>
    match place i, v.cells with
    | some (off, size), some vs => if vs.length = size ∧ off + vs.length ≤ cs.length then vfill place (spl cs off vs) rest else none
    | _, _ => none

section
variable {P : Program} {E : Env} {g : Gh} {H : Heap} {w : World} {ty : Ty}

/-- Cells and values, one by one. -/
def LRel (P : Program) (E : Env) (H : Heap) (g : Gh) (vs : List VV) (cs : List Value) : Prop :=
  cs.length = vs.length ∧ ∀ (j : Nat) (c : VV) (u : Value), vs[j]? = some c → cs[j]? = some u → CRel P E H g c u

theorem cells_rel {x : VV} {vs : List VV} {v : Value} (hx : x.cells = some vs) (h : VRel P E H g x v) : LRel P E H g vs v.cells.toList := by
  by_cases ha : ∃ ws, x = .agg ws
  · obtain ⟨ws, rfl⟩ := ha
    simp only [VV.cells, Option.some.injEq] at hx
    subst hx
    obtain ⟨cs, rfl, h1, h2⟩ := h
    exact ⟨by simpa [Value.cells] using h1, fun j c u hj hu => h2 j c u hj (by simpa [Value.cells] using hu)⟩
  · have hc : CRel P E H g x v ∧ x ≠ .any ∧ vs = [x] := by
      cases x <;> simp [VV.cells] at hx <;> first
        | (subst hx; exact ⟨h, by simp, rfl⟩)
        | exact absurd ⟨_, rfl⟩ ha
    obtain ⟨hc, hn, rfl⟩ := hc
    have h1 := crel_one hc hn
    have hcells : v.cells.toList = [v] := by cases v <;> simp_all [Value.cells, Value.oneCell']
    rw [hcells]
    refine ⟨rfl, fun j c u hj hu => ?_⟩
    cases j with
    | zero =>
      simp only [List.getElem?_cons_zero, Option.some.injEq] at hj hu
      subst hj
      subst hu
      exact hc
    | succ j => simp at hj

theorem lrel_spl {vs us : List VV} {cs ds : List Value} {j : Nat} (h : LRel P E H g vs cs) (h' : LRel P E H g us ds) (hj : j + us.length ≤ vs.length) : LRel P E H g (spl vs j us) (spl cs j ds) := by
  have hj' : j + ds.length ≤ cs.length := by rw [h.1, h'.1]; exact hj
  refine ⟨by rw [spl_length hj, spl_length hj', h.1], fun k c u hc hu => ?_⟩
  rw [spl_get hj] at hc
  rw [spl_get hj'] at hu
  rw [h'.1] at hu
  split at hc
  · rename_i c1; rw [if_pos c1] at hu; exact h.2 k c u hc hu
  · rename_i c1
    rw [if_neg c1] at hu
    split at hc
    · rename_i c2; rw [if_pos c2] at hu; exact h'.2 _ c u hc hu
    · rename_i c2; rw [if_neg c2] at hu; exact h.2 k c u hc hu

theorem foldl_set : ∀ (ds : List Value) (off k : Nat) (cs : Array Value), off + k + ds.length ≤ cs.size →
    ((ds.zipIdx k).foldl (fun cs (x : Value × Nat) => cs.setIfInBounds (off + x.2) x.1) cs) = (spl cs.toList (off + k) ds).toArray := by
  intro ds
  induction ds with
  | nil => intro off k cs h; simp [spl]
  | cons d ds ih =>
    intro off k cs h
    simp only [List.zipIdx_cons, List.foldl_cons]
    rw [ih off (k + 1) _ (by simp at h ⊢; omega)]
    congr 1
    apply List.ext_getElem?
    intro i
    simp at h
    rw [spl_get (by simp; omega), spl_get (by simp; omega)]
    simp only [Array.toList_setIfInBounds, List.getElem?_set, List.length_cons]
    by_cases c1 : i < off + k
    · simp [c1, show i < off + (k + 1) by omega, show off + k ≠ i by omega]
    · by_cases c0 : i = off + k
      · subst c0
        simp only [Nat.lt_irrefl, if_false, show off + k < off + (k + 1) by omega, if_true, Nat.sub_self, show off + k < off + k + (ds.length + 1) by omega, List.getElem?_cons_zero]
        rw [if_pos (by simp; omega)]
      · by_cases c2 : i < off + k + (ds.length + 1)
        · simp [c1, c2, show ¬ i < off + (k + 1) by omega, show i < off + (k + 1) + ds.length by omega, show off + k ≠ i by omega, show i - (off + k) = (i - (off + (k + 1))) + 1 by omega]
        · simp [c1, c2, show ¬ i < off + (k + 1) by omega, show ¬ i < off + (k + 1) + ds.length by omega, show off + k ≠ i by omega]

theorem fill_rel {place : Nat → Option (Nat × Nat)} : ∀ (parts : List (Nat × VV)) (ps : List (Nat × Value)) (cs : List VV) (ds : List Value) (r : List VV), ps.map (·.1) = parts.map (·.1) →
    (∀ (j : Nat) (x : Nat × VV) (y : Nat × Value), parts[j]? = some x → ps[j]? = some y → VRel P E H g x.2 y.2) → LRel P E H g cs ds → vfill place cs parts = some r →
    ∃ es : List Value, Instr.fill place ds.toArray ps = some es.toArray ∧ LRel P E H g r es := by
  intro parts
  induction parts with
  | nil =>
    intro ps cs ds r hp _ hl hf
    have : ps = [] := by simpa using hp
    subst this
    simp only [vfill, Option.some.injEq] at hf
    subst hf
    exact ⟨ds, rfl, hl⟩
  | cons x parts ih =>
    intro ps cs ds r hp hr hl hf
    cases ps with
    | nil => simp at hp
    | cons y ps =>
      obtain ⟨i, v⟩ := x
      obtain ⟨i', V⟩ := y
      simp only [List.map_cons, List.cons.injEq] at hp
      obtain ⟨hi, hp'⟩ := hp
      have hi : i' = i := hi
      subst hi
      simp only [vfill] at hf
      split at hf
      · rename_i off size vs hpl hvs
        split at hf
        · rename_i hc
          obtain ⟨hc1, hc2⟩ := hc
          have hv := cells_rel hvs (hr 0 _ _ rfl rfl)
          have hVs : V.cells.size = vs.length := by have := hv.1; simpa using this
          have hdl := hl.1
          have hds : off + V.cells.toList.length ≤ ds.length := by simp; omega
          have hfs := foldl_set V.cells.toList off 0 ds.toArray (by simpa using hds)
          simp only [Nat.add_zero] at hfs
          obtain ⟨es, he, hre⟩ := ih ps (spl cs off vs) (spl ds off V.cells.toList) r hp' (fun j x y hj hy => hr (j + 1) x y hj hy) (lrel_spl hl hv hc2) hf
          refine ⟨es, ?_, hre⟩
          simp only [Instr.fill, hpl]
          have hsz : ¬ (V.cells.size ≠ size || off + V.cells.size > ds.toArray.size) = true := by simp; omega
          rw [if_neg hsz]
          rw [← he]
          congr 1
          rw [← hfs]
          rw [← Array.foldl_toList]
          simp [Array.toList_zipIdx]
        · cases hf
      · cases hf

theorem const_crel {x : VV} {v : Value} (h : x.const? = some v) : CRel P E H g x v := by
  cases x <;> simp [VV.const?] at h <;> (subst h; rfl)

theorem zero_rel (hT : TyOK P ty) {t : TypeId} {d : TyE} (ht : ty t = some d) (hz : d.zero ≠ []) : ∃ zv, (zeroValue t).run P w = .ok zv w ∧ LRel P E H g d.zero zv.cells.toList ∧ zv.cells.size = d.zero.length ∧
    ∃ i, P.info? t = some i ∧ i.zero = some zv ∧ i.size = d.size ∧ i.bytes = d.bytes := by
  obtain ⟨i, hi, hs, hby, hzz⟩ := (hT t d ht).info
  rcases hzz with h0 | ⟨zv, h1, h2⟩
  · exact absurd h0 hz
  · have hlen : zv.cells.toList.length = d.zero.length := by have := congrArg List.length h2; simpa using this
    refine ⟨zv, by simp [zeroValue, typeInfo, hi, h1], ⟨hlen, fun j c u hj hu => ?_⟩, by simpa using hlen, i, hi, h1, hs, hby⟩
    have h3 := congrArg (fun l => l[j]?) h2
    simp only [List.getElem?_map, hj, hu, Option.map_some, Option.some.injEq] at h3
    exact const_crel h3.symm
end
end Go.Proofs.Ytchkbgekmoileaa

/- The value-level engine, twelfth part: structs, literal slices, make. -/
namespace Go.Proofs.Ytchkbgekmoileaa
open Go Go.RowKit
set_option linter.unusedVariables false
set_option linter.unusedSimpArgs false

def partTy (ty : Ty) (t : TypeId) (i : Nat) : TypeId :=
  match ty t with
  | some ⟨.st fs, _, _, _⟩ => (fs[i]?.map (·.2)).getD 0
  | some ⟨.ar _ e, _, _, _⟩ => e
  | some ⟨.sl e, _, _, _⟩ => e
  | _ => 0

def evParts (ty : Ty) (s : St) (t : TypeId) (parts : Array (Nat × Operand)) : List (Nat × VV) :=
  parts.toList.map fun x => (x.1, retype ty (partTy ty t x.1) (ev s x.2))

def vBuild (ty : Ty) (t : TypeId) (parts : List (Nat × VV)) : Option VV :=
  match ty t with
  | some ⟨.st fs, _, _, z⟩ =>
    if z = [] then none else
    if fs.all (fun x => (ty x.2).isSome) then (vfill (fun i => fs[i]?.map fun x => (x.1, sizeT ty x.2)) z parts).map .agg else none
  | some ⟨.ar _ e, _, _, z⟩ =>
    if z = [] then none else
    if (ty e).isSome then (vfill (fun i => some (i * sizeT ty e, sizeT ty e)) z parts).map .agg else none
  | _ => none

section
variable {P : Program} {E : Env} {g : Gh} {s : St} {a : Act} {w : World} {ty : Ty}

theorem evParts_rel (h : Rel P E g s a w) (t : TypeId) (parts : Array (Nat × Operand)) :
    (parts.toList.map fun x => (x.1, a.eval x.2)).map (·.1) = (evParts ty s t parts).map (·.1) ∧
    ∀ (j : Nat) (x : Nat × VV) (y : Nat × Value), (evParts ty s t parts)[j]? = some x → (parts.toList.map fun x => (x.1, a.eval x.2))[j]? = some y → VRel P E s.H g x.2 y.2 := by
  refine ⟨by simp [evParts], fun j x y hx hy => ?_⟩
  simp only [evParts, List.getElem?_map] at hx hy
  cases hq : parts.toList[j]? with
  | none => rw [hq] at hx; cases hx
  | some q =>
    rw [hq] at hx hy
    simp only [Option.map_some, Option.some.injEq] at hx hy
    subst hx
    subst hy
    exact retype_rel _ (ev_rel h q.2)

theorem sizeT_info (hT : TyOK P ty) {t : TypeId} (h : (ty t).isSome = true) : (P.info? t).map (·.size) = some (sizeT ty t) := by
  cases hd : ty t with
  | none => simp [hd] at h
  | some d =>
    obtain ⟨i, hi, hs, _⟩ := (hT t d hd).info
    simp [hi, hs, sizeT, hd]

theorem places_of (hT : TyOK P ty) : ∀ (F : List Field), (F.map (fun f => (f.offset, f.type))).all (fun x => (ty x.2).isSome) = true →
    F.mapM (fun f => (P.info? f.type).map fun i => (f.offset, i.size)) = some ((F.map (fun f => (f.offset, f.type))).map fun x => (x.1, sizeT ty x.2))
  | [], _ => by simp
  | f :: F, h => by
    simp only [List.map_cons, List.all_cons, Bool.and_eq_true] at h
    have h1 := sizeT_info hT h.1
    have ih := places_of hT F h.2
    cases hi : P.info? f.type with
    | none => simp [hi] at h1
    | some i =>
      simp only [hi, Option.map_some, Option.some.injEq] at h1
      simp only [List.mapM_cons, hi, Option.map_some, ih, List.map_cons, h1]
      rfl

theorem gives_build (hT : TyOK P ty) (h : Rel P E g s a w) {o : Oper} {t : TypeId} {parts : Array (Nat × Operand)} {r : VV} (ho : o.op = .build t parts)
    (hb : vBuild ty t (evParts ty s t parts) = some r) : Gives P E g s a w o r := by
  obtain ⟨hp1, hp2⟩ := evParts_rel (ty := ty) h t parts
  suffices hh : ∃ v, (Instr.build t (parts.map fun x => (x.1, a.eval x.2))).run P w = .ok v w ∧ VRel P E s.H g r v by
    obtain ⟨v, h1, h2⟩ := hh
    exact ⟨v, by simp [execOp, ho, h1], h2⟩
  have hl : (parts.map fun x => (x.1, a.eval x.2)).toList = parts.toList.map fun x => (x.1, a.eval x.2) := by simp
  unfold vBuild at hb
  split at hb
  · rename_i fs sz by' z ht
    split at hb
    · cases hb
    · rename_i hz
      split at hb
      · rename_i hall
        obtain ⟨F, hF, hm⟩ := (hT t _ ht).desc
        obtain ⟨zv, hzr, hzl, hzs, i, hi, hiz, _⟩ := zero_rel (P := P) (E := E) (H := s.H) (g := g) (w := w) hT ht hz
        cases hf : vfill (fun i => fs[i]?.map fun x => (x.1, sizeT ty x.2)) z (evParts ty s t parts) with
        | none => rw [hf] at hb; cases hb
        | some r' =>
          rw [hf] at hb
          simp only [Option.map_some, Option.some.injEq] at hb
          subst hb
          obtain ⟨es, he, hre⟩ := fill_rel (P := P) (E := E) (g := g) (H := s.H) _ _ _ _ _ hp1 hp2 hzl hf
          refine ⟨.agg es.toArray, run_build w t _ es.toArray ?_, es, rfl, hre.1, hre.2⟩
          rw [hl]
          have hpl := places_of hT F.toList (by rw [hm]; exact hall)
          rw [hm] at hpl
          simp only [Program.built, hi, hF, hiz, hpl]
          rw [← he]
          congr 1
          funext i
          simp
      · cases hb
  · rename_i n e sz by' z ht
    split at hb
    · cases hb
    · rename_i hz
      split at hb
      · rename_i hall
        have hu : P.underlying t = some (.array n e) := (hT t _ ht).desc
        obtain ⟨zv, hzr, hzl, hzs, i, hi, hiz, _⟩ := zero_rel (P := P) (E := E) (H := s.H) (g := g) (w := w) hT ht hz
        have h1 := sizeT_info hT hall
        cases hie : P.info? e with
        | none => simp [hie] at h1
        | some ie =>
          simp only [hie, Option.map_some, Option.some.injEq] at h1
          cases hf : vfill (fun i => some (i * sizeT ty e, sizeT ty e)) z (evParts ty s t parts) with
          | none => rw [hf] at hb; cases hb
          | some r' =>
            rw [hf] at hb
            simp only [Option.map_some, Option.some.injEq] at hb
            subst hb
            obtain ⟨es, he, hre⟩ := fill_rel (P := P) (E := E) (g := g) (H := s.H) _ _ _ _ _ hp1 hp2 hzl hf
            refine ⟨.agg es.toArray, run_build w t _ es.toArray ?_, es, rfl, hre.1, hre.2⟩
            rw [hl]
            simp only [Program.built, hi, hu, hiz, hie, h1]
            rw [← he]
      · cases hb
  · cases hb
end

/-! ### Cells of a slice of the call's own -/
def toCells : List VV → Nat → Heap → Option (List PT × Nat × Heap)
  | [], n, H => some ([], n, H)
  | .nl e :: vs, n, H => match toCells vs (n + 1) (updH n (.root e []) H) with
    | some (ps, m, H') => some (.ref n 0 :: ps, m, H')
    | none => none
  | v :: vs, n, H => match v.cell, toCells vs n H with
    | some c, some (ps, m, H') => some (c :: ps, m, H')
    | _, _ => none

section
variable {P : Program} {E : Env} {w : World} {ty : Ty}

theorem lrel_cons {g : Gh} {H : Heap} {v : VV} {vs : List VV} {us : List Value} (h : LRel P E H g (v :: vs) us) : ∃ u us', us = u :: us' ∧ CRel P E H g v u ∧ LRel P E H g vs us' := by
  cases us with
  | nil => have := h.1; simp at this
  | cons u us => exact ⟨u, us, rfl, h.2 0 v u rfl rfl, by have := h.1; simpa using this, fun j c x hj hx => h.2 (j + 1) c x hj hx⟩

theorem lrel_mono {g g' : Gh} {H H' : Heap} {vs : List VV} {us : List Value} (hl : HLe g H g' H') (h : LRel P E H g vs us) : LRel P E H' g' vs us :=
  ⟨h.1, fun j c u hj hu => crel_mono hl (h.2 j c u hj hu)⟩

theorem toCells_le : ∀ (vs : List VV) (n : Nat) (H : Heap) (ps : List PT) (m : Nat) (H' : Heap), toCells vs n H = some (ps, m, H') → n ≤ m := by
  intro vs
  induction vs with
  | nil => intro n H ps m H' h; simp only [toCells, Option.some.injEq, Prod.mk.injEq] at h; omega
  | cons v vs ih =>
    intro n H ps m H' h
    by_cases hv : ∃ e, v = .nl e
    · obtain ⟨e, rfl⟩ := hv
      simp only [toCells] at h
      cases hr : toCells vs (n + 1) (updH n (.root e []) H) with
      | none => rw [hr] at h; cases h
      | some z =>
        obtain ⟨ps', m', H2⟩ := z
        rw [hr] at h
        simp only [Option.some.injEq, Prod.mk.injEq] at h
        have := ih _ _ _ _ _ hr
        omega
    · have h' : (match v.cell, toCells vs n H with | some c, some (ps, m, H') => some (c :: ps, m, H') | _, _ => none) = some (ps, m, H') := by
        cases v <;> first | exact h | exact absurd ⟨_, rfl⟩ hv
      cases hcv : v.cell with
      | none => rw [hcv] at h'; cases h'
      | some c0 =>
        cases hr : toCells vs n H with
        | none => rw [hcv, hr] at h'; cases h'
        | some z =>
          obtain ⟨ps', m', H2⟩ := z
          rw [hcv, hr] at h'
          simp only [Option.some.injEq, Prod.mk.injEq] at h'
          have := ih _ _ _ _ _ hr
          omega

theorem toCells_rel : ∀ (vs : List VV) (us : List Value) (n : Nat) (H : Heap) (g : Gh) (ps : List PT) (m : Nat) (H' : Heap), toCells vs n H = some (ps, m, H') → HRel P E g H w → (∀ X, n ≤ X → X < m → g.sn X = false) → LRel P E H g vs us →
    n ≤ m ∧ ∃ g', HRel P E g' H' w ∧ (∀ X, (n ≤ X → m ≤ X) → g'.sn X = g.sn X) ∧ HLe g H g' H' ∧ (∀ X, g.sn X = true → H' X = H X) ∧ (∀ X, g.sn X = true → g'.bx X = g.bx X ∧ ∀ p, g'.hd X p = g.hd X p) ∧ ps.length = vs.length ∧
      (∀ (j : Nat) (c : PT) (u hh : Value), ps[j]? = some c → us[j]? = some u → ocell P E H' g' c hh u) ∧ (∀ (j : Nat) (c : PT), ps[j]? = some c → ∀ e rows, c ≠ PT.list e rows) := by
  intro vs
  induction vs with
  | nil =>
    intro us n H g ps m H' ht hh hf hl
    simp only [toCells, Option.some.injEq, Prod.mk.injEq] at ht
    obtain ⟨rfl, rfl, rfl⟩ := ht
    exact ⟨Nat.le_refl _, g, hh, fun _ _ => rfl, HLe.refl _ _, fun _ _ => rfl, fun _ _ => ⟨rfl, fun _ => rfl⟩, rfl, fun j c u hh hj => by simp at hj, fun j c hj => by simp at hj⟩
  | cons v vs ih =>
    intro us n H g ps m H' ht hh hf hl
    obtain ⟨u, us, rfl, hc, hl'⟩ := lrel_cons hl
    by_cases hv : ∃ e, v = .nl e
    · obtain ⟨e, rfl⟩ := hv
      simp only [toCells] at ht
      cases hr : toCells vs (n + 1) (updH n (.root e []) H) with
      | none => rw [hr] at ht; cases ht
      | some z =>
        obtain ⟨ps', m', H2⟩ := z
        rw [hr] at ht
        simp only [Option.some.injEq, Prod.mk.injEq] at ht
        obtain ⟨rfl, rfl, rfl⟩ := ht
        have hnm : n + 1 ≤ m' := toCells_le vs (n + 1) _ ps' m' H2 hr
        have hY : g.sn n = false := hf n (Nat.le_refl _) (by omega)
        obtain ⟨h1, h2⟩ := hrel_nil hh hY e
        have hle : HLe g H (g.fresh n none (.slice none 0 0)) (updH n (.root e []) H) := hle_new hY (fun T hT => by simp [Gh.fresh, hT]) (fun T p hT => by simp [Gh.fresh, hT]) (fun T hT => rfl)
        have hf' : ∀ X, n + 1 ≤ X → X < m' → (g.fresh n none (.slice none 0 0)).sn X = false := fun X hX hX2 => by
          have : X ≠ n := by omega
          simp [Gh.fresh, this, hf X (by omega) hX2]
        obtain ⟨_, g', k2, k3, k4, k5, k5', k6, k7, k8⟩ := ih us (n + 1) _ _ ps' m' H2 hr h1 hf' (lrel_mono hle hl')
        have hsn : ∀ X, g.sn X = true → (g.fresh n none (.slice none 0 0)).sn X = true := hle.sn
        have hne : ∀ X, g.sn X = true → X ≠ n := fun X hX hh => by rw [hh, hY] at hX; cases hX
        refine ⟨by omega, g', k2, fun X hX => ?_, hle.trans k4, fun X hX => ?_, fun X hX => ?_, by simp [k6], fun j c x hh' hj hx => ?_, fun j c hj => ?_⟩
        · have hXn : X ≠ n := fun hh => by subst hh; have := hX (Nat.le_refl _); omega
          rw [k3 X (fun hh => hX (by omega))]
          simp [Gh.fresh, hXn]
        · rw [k5 X (hsn X hX), updH_ne _ _ (hne X hX)]
        · obtain ⟨q1, q2⟩ := k5' X (hsn X hX)
          exact ⟨q1, fun p => by rw [q2]; simp [Gh.fresh, hne X hX]⟩
        · cases j with
          | zero =>
            simp only [List.getElem?_cons_zero, Option.some.injEq] at hj hx
            subst hj
            subst hx
            have hcu : u = .slice none 0 0 := hc
            subst hcu
            exact crel_mono (x := .rf n 0) k4 h2
          | succ j => exact k7 j c x hh' hj hx
        · cases j with
          | zero => simp only [List.getElem?_cons_zero, Option.some.injEq] at hj; subst hj; intro e rows hh; cases hh
          | succ j => exact k8 j c hj
    · have ht' : (match v.cell, toCells vs n H with | some c, some (ps, m, H') => some (c :: ps, m, H') | _, _ => none) = some (ps, m, H') := by
        cases v <;> first | exact ht | exact absurd ⟨_, rfl⟩ hv
      cases hcv : v.cell with
      | none => rw [hcv] at ht'; cases ht'
      | some c0 =>
        cases hr : toCells vs n H with
        | none => rw [hcv, hr] at ht'; cases ht'
        | some z =>
          obtain ⟨ps', m', H2⟩ := z
          rw [hcv, hr] at ht'
          simp only [Option.some.injEq, Prod.mk.injEq] at ht'
          obtain ⟨rfl, rfl, rfl⟩ := ht'
          obtain ⟨k0, g', k2, k3, k4, k5, k5', k6, k7, k8⟩ := ih us n H g ps' m' H2 hr hh hf hl'
          refine ⟨k0, g', k2, k3, k4, k5, k5', by simp [k6], fun j c x hh' hj hx => ?_, fun j c hj => ?_⟩
          · cases j with
            | zero =>
              simp only [List.getElem?_cons_zero, Option.some.injEq] at hj hx
              subst hj
              subst hx
              exact cell_ocell hcv (crel_mono k4 hc)
            | succ j => exact k7 j c x hh' hj hx
          · cases j with
            | zero => simp only [List.getElem?_cons_zero, Option.some.injEq] at hj; subst hj; exact cell_plain hcv
            | succ j => exact k8 j c hj
end
end Go.Proofs.Ytchkbgekmoileaa

/- The value-level engine, thirteenth part: append. -/
namespace Go.Proofs.Ytchkbgekmoileaa
open Go Go.RowKit
set_option linter.unusedVariables false
set_option linter.unusedSimpArgs false

section
variable {P : Program} {E : Env} {g : Gh} {H : Heap} {w w' : World} {ty : Ty}

theorem hrel_kill (h : HRel P E g H w) (T : Nat) : HRel P E g (updH T .dead H) w ∧ HLe g H g (updH T .dead H) := by
  have hle : HLe g H g (updH T .dead H) := by
    refine ⟨fun _ h => h, fun X e rows hX hh => ?_, fun X hX hh => ?_, fun X hX _ => rfl, fun X hX _ => rfl⟩
    · by_cases c : X = T
      · subst c; rw [updH_same] at hh; cases hh
      · rw [updH_ne _ _ c] at hh; exact ⟨rows, hh⟩
    · by_cases c : X = T
      · subst c; rw [updH_same] at hh; cases hh
      · rwa [updH_ne _ _ c] at hh
  refine ⟨⟨h.frm, fun X e rows hX p e2 rows2 hp => ?_, fun X cs hX => ?_, fun X hX => ?_⟩, hle⟩
  · have c : X ≠ T := by rintro rfl; rw [updH_same] at hX; cases hX
    rw [updH_ne _ _ c] at hX
    exact node_mono hle (h.node X e rows hX p e2 rows2 hp) (fun _ => rfl) (fun _ _ hb => hb) (fun _ _ _ => rfl)
  · have c : X ≠ T := by rintro rfl; rw [updH_same] at hX; cases hX
    rw [updH_ne _ _ c] at hX
    exact box_mono hle (h.box X cs hX) rfl (fun hh => hh) (fun _ _ hh => hh) (fun cur e he => ⟨cur, he, fun _ _ _ => rfl⟩)
  · by_cases c : X = T
    · rw [c, updH_same] at hX; cases hX
    · rw [updH_ne _ _ c] at hX; exact h.seen X hX

/-- What is appended: m rows that lie somewhere. -/
def Src (P : Program) (E : Env) (g : Gh) (H : Heap) (w : World) (e : TypeId) (ns : List (List PT)) (A : Option Addr) : Prop :=
  ns = [] ∨ ∃ b o, A = some ⟨b, o, none⟩ ∧ ∀ i r, ns[i]? = some r → r.length = P.cellsOf e ∧
    ∀ (j : Nat) (c : PT), r[j]? = some c → ∃ u, w.cell? ⟨b, o + (i * P.cellsOf e + j), none⟩ = some u ∧ u.oneCell' = true ∧ ∀ hh, ocell P E H g c hh u

/-- The cells of what is appended, as a list. -/
theorem src_list {e : TypeId} {ns : List (List PT)} {b o : Nat} (hs : ∀ i r, ns[i]? = some r → r.length = P.cellsOf e ∧
    ∀ (j : Nat) (c : PT), r[j]? = some c → ∃ u, w.cell? ⟨b, o + (i * P.cellsOf e + j), none⟩ = some u ∧ u.oneCell' = true ∧ ∀ hh, ocell P E H g c hh u) :
    ∃ news : List Value, news.length = ns.length * P.cellsOf e ∧ (∀ (k : Nat) (u : Value), news[k]? = some u → w.cell? ((⟨b, o, none⟩ : Addr).add k) = some u) ∧ (∀ u ∈ news, u.oneCell' = true) ∧
      ∀ i r, ns[i]? = some r → r.length = P.cellsOf e ∧ ∀ (j : Nat) (c : PT), r[j]? = some c → ∃ u, news[i * P.cellsOf e + j]? = some u ∧ ∀ hh, ocell P E H g c hh u := by
  have key : ∀ k, k < ns.length * P.cellsOf e → ∃ u, w.cell? ⟨b, o + k, none⟩ = some u ∧ u.oneCell' = true := by
    intro k hk
    have hsz : 0 < P.cellsOf e := by
      rcases Nat.eq_zero_or_pos (P.cellsOf e) with h0 | h0
      · rw [h0] at hk; simp at hk
      · exact h0
    have hi : k / P.cellsOf e < ns.length := (Nat.div_lt_iff_lt_mul hsz).2 hk
    obtain ⟨h1, h2⟩ := hs (k / P.cellsOf e) _ (List.getElem?_eq_getElem hi)
    have hj : k % P.cellsOf e < ns[k / P.cellsOf e].length := by rw [h1]; exact Nat.mod_lt _ hsz
    obtain ⟨u, hu, h3, _⟩ := h2 (k % P.cellsOf e) _ (List.getElem?_eq_getElem hj)
    rw [show k / P.cellsOf e * P.cellsOf e + k % P.cellsOf e = k by rw [Nat.mul_comm]; exact Nat.div_add_mod k _] at hu
    exact ⟨u, hu, h3⟩
  refine ⟨(List.range (ns.length * P.cellsOf e)).map fun k => (w.cell? ⟨b, o + k, none⟩).getD undef, by simp, fun k u hu => ?_, fun u hu => ?_, fun i r hr => ?_⟩
  · simp only [List.getElem?_map] at hu
    rcases Nat.lt_or_ge k (ns.length * P.cellsOf e) with hk | hk
    · rw [List.getElem?_range hk] at hu
      simp only [Option.map_some, Option.some.injEq] at hu
      obtain ⟨u', h1, _⟩ := key k hk
      rw [h1] at hu
      simp only [Option.getD_some] at hu
      rw [add_off, ← hu]
      exact h1
    · rw [List.getElem?_eq_none (by simpa using hk)] at hu; cases hu
  · simp only [List.mem_map, List.mem_range] at hu
    obtain ⟨k, hk, rfl⟩ := hu
    obtain ⟨u', h1, h2⟩ := key k hk
    rw [h1]
    exact h2
  · obtain ⟨h1, h2⟩ := hs i r hr
    refine ⟨h1, fun j c hc => ?_⟩
    obtain ⟨u, h3, _, h4⟩ := h2 j c hc
    refine ⟨u, ?_, h4⟩
    have hi : i < ns.length := (List.getElem?_eq_some_iff.1 hr).1
    have hj : j < r.length := (List.getElem?_eq_some_iff.1 hc).1
    have hlt : i * P.cellsOf e + j < ns.length * P.cellsOf e := by
      have : (i + 1) * P.cellsOf e ≤ ns.length * P.cellsOf e := Nat.mul_le_mul_right _ hi
      rw [Nat.add_mul] at this
      omega
    simp only [List.getElem?_map, List.getElem?_range hlt, Option.map_some, h3, Option.getD_some]

theorem run_app_nothing {t tr e : TypeId} {i : TypeInfo} (ht : P.underlying t = some (.slice e)) (hi : P.info? e = some i) (B A : Option Addr) (n cap c : Nat) (hn : n ≤ cap) :
    (Builtin.append_ #[t, t] tr #[.slice B n cap, .slice A 0 c]).run P w = .ok (.slice B n cap) w := by
  cases A <;> cases B <;> simp [Builtin.append_, run_underlying ht, sizeOf, typeInfo, hi, Builtin.lenOf, Builtin.firstCells, hn, storeCells, loadCells, loadCellsFrom]

theorem append_rel (hT : TyOK P ty) (h : HRel P E g H w) {Y : Nat} (hY : g.sn Y = false) {t tr e : TypeId} {d : TyE} (ht : P.underlying t = some (.slice e)) (hde : ty e = some d) (hz : d.zero ≠ []) (hzl : d.zero.length = d.size)
    {T n : Nat} {rows : List (List PT)} (hTr : H T = .root e rows) (hn : n ≤ rows.length) {ns : List (List PT)} {A : Option Addr} {c : Nat} (hs : Src P E g H w e ns A)
    (hns : ∀ r ∈ ns, ∀ c ∈ r, ∀ e rows, c ≠ PT.list e rows) (hbytes : (n + ns.length) * d.bytes ≤ 140737488355328) (hmax : n + ns.length ≤ maxLen) :
    ∃ v' w' g', (Builtin.append_ #[t, t] tr #[cutv n (g.hd T []), .slice A ns.length c]).run P w = .ok v' w' ∧ (∀ X, X ≠ Y → g'.sn X = g.sn X) ∧
      HRel P E g' (updH Y (.root e (rows.take n ++ ns)) (updH T .dead H)) w' ∧ CRel P E (updH Y (.root e (rows.take n ++ ns)) (updH T .dead H)) g' (.rf Y (n + ns.length)) v' ∧
      HLe g H g' (updH Y (.root e (rows.take n ++ ns)) (updH T .dead H)) := by
  have hTlt := own_root_lt h hTr
  have h1 := hT e d hde
  obtain ⟨zv, _, _, hzs, i, hi, hiz, his, hib⟩ := zero_rel (P := P) (E := E) (H := H) (g := g) (w := w) hT hde hz
  have hcs : P.cellsOf e = i.size := by rw [h1.cells, his]
  have hsmall : n + ns.length ≤ 9223372036854775807 := by simp only [maxLen] at hmax; omega
  have hle : ∀ (v : Value) (nb : Option Nat), HLe g H (g.grow Y T nb v) (updH Y (.root e (rows.take n ++ ns)) (updH T .dead H)) := by
    intro v nb
    have hne : ∀ X, g.sn X = true → X ≠ Y := fun X hX hh => by rw [hh, hY] at hX; cases hX
    refine ⟨fun X hX => by simp [Gh.grow, hX], fun X e' rows' hX hh => ?_, fun X hX hh => ?_, fun X hX _ => ?_, fun X hX _ => rfl⟩
    · rw [updH_ne _ _ (hne X hX)] at hh
      by_cases c1 : X = T
      · subst c1; rw [updH_same] at hh; cases hh
      · rw [updH_ne _ _ c1] at hh; exact ⟨_, hh⟩
    · rw [updH_ne _ _ (hne X hX)] at hh
      by_cases c1 : X = T
      · subst c1; rw [updH_same] at hh; cases hh
      · rwa [updH_ne _ _ c1] at hh
    · simp only [Gh.grow]
      rw [if_neg (hne X hX)]
  rcases h.node T e rows hTr [] e rows rfl with ⟨hhd, hnil⟩ | ⟨b, cap, cur, hhd, hown, hpl, hw, hcap, hcm, hsz, hrows⟩
  · -- the nil slice
    subst hnil
    have hn0 : n = 0 := by simpa using hn
    subst hn0
    rw [hhd]
    simp only [cutv, List.take_nil, List.nil_append, Nat.zero_add] at *
    by_cases h0 : ns = []
    · subst h0
      obtain ⟨k1, k2⟩ := hrel_kill h T
      obtain ⟨k3, k4⟩ := hrel_nil k1 hY e
      refine ⟨.slice none 0 0, w, _, run_app_nothing ht hi none A 0 0 c (Nat.le_refl _), (fun X hX => by simp [Gh.fresh, hX]), k3, k4, k2.trans (hle_new hY (fun T hT => by simp [Gh.fresh, hT]) (fun X p hX => by simp [Gh.fresh, hX]) (fun X hX => rfl))⟩
    · rcases hs with h1' | ⟨b2, o2, rfl, hs⟩
      · exact absurd h1' h0
      · obtain ⟨news, n1, n2, n3, n4⟩ := src_list (g := g) (H := H) hs
        have hpos : 0 < ns.length := List.length_pos_iff.2 h0
        have hr := run_append_nil (P := P) w t tr e i zv ht hi hiz ⟨b2, o2, none⟩ ns.length c news (by rw [n1, hcs]) n2 hpos (by omega) (by rw [hib]; omega)
        have hge := grownCap_ge w ns.length 0 e
        have hgm := grownCap_le_maxLen w ns.length 0 e hmax
        have hg := hrel_grow (w' := w.drew.alloc (.cells (news.toArray ++ Builtin.zeroCells zv.cells (grownCap w ns.length 0 e - ns.length)) e)) (n := 0) h hY hTr (Nat.zero_le _) hns
          (v := .slice (some ⟨w.heap.size, 0, none⟩) ns.length (grownCap w ns.length 0 e)) (nb := w.heap.size) (by rw [Nat.zero_add]) (h.frm.drew.alloc _) (heap_alloc_new w.drew _) (fun b hb _ => Below.heap_alloc w.drew _ b hb) (.inl rfl) (.inl h.frm.size)
          (by omega) hgm (by simp only [Array.size_append, List.size_toArray, size_zeroCells, n1, hzs, hzl, ← his, hcs, ← Nat.add_mul]; congr 1; omega) (fun i r hi => by omega)
          (fun i r hr => by
            obtain ⟨m1, m2⟩ := n4 i r hr
            refine ⟨m1, fun j c hc => ?_⟩
            obtain ⟨u, m3, m4⟩ := m2 j c hc
            have hlt := (List.getElem?_eq_some_iff.1 m3).1
            refine ⟨u, ?_, m4⟩
            rw [Nat.zero_add, Array.getElem?_append_left (by simpa using hlt)]
            simpa using m3)
        simp only [List.take_nil, List.nil_append, Nat.zero_add] at hg
        exact ⟨_, _, _, hr, (fun X hX => by simp [Gh.grow, hX]), hg.1, hg.2, hle _ _⟩
  · have hlenrow : ∀ i r, i < n → rows[i]? = some r → r.length = P.cellsOf e := fun i r _ hr => (hrows i r hr).1
    rw [hhd]
    simp only [cutv]
    have hold0 : ∀ (cur' : Array Value), (∀ k, k < n * P.cellsOf e → cur'[k]? = cur[k]?) → ∀ i r, i < n → rows[i]? = some r → ∀ (j : Nat), j < P.cellsOf e → ∀ cur2 b2 m c, g.hd T [] = .slice (some ⟨b2, 0, none⟩) m c → w.heap[b2]? = some (.cells cur2 e (0, 0)) → cur'[i * P.cellsOf e + j]? = cur2[i * P.cellsOf e + j]? := by
      intro cur' hk i r hin hr j hj cur2 b2 m c2 hh hw2
      rw [hhd] at hh
      injection hh with e1
      injection e1 with e1
      injection e1 with e1
      subst e1
      rw [hw] at hw2
      injection hw2 with e2
      injection e2 with e2
      subst e2
      refine hk _ ?_
      have : (i + 1) * P.cellsOf e ≤ n * P.cellsOf e := Nat.mul_le_mul_right _ hin
      rw [Nat.add_mul] at this
      omega
    by_cases h0 : ns = []
    · subst h0
      have hg := hrel_grow (w' := w) (n := n) (ns := []) h hY hTr hn hns (v := .slice (some ⟨b, 0, none⟩) n cap) (nb := b) (by simp) h.frm hw (fun _ _ _ => rfl) (.inr hown) hpl (by simp; omega) hcm hsz (hold0 cur fun _ _ => rfl) (fun i r hr => by simp at hr)
      exact ⟨_, _, _, run_app_nothing ht hi _ A n cap c (by omega), (fun X hX => by simp [Gh.grow, hX]), hg.1, hg.2, hle _ _⟩
    · rcases hs with h1' | ⟨b2, o2, rfl, hs⟩
      · exact absurd h1' h0
      · obtain ⟨news, n1, n2, n3, n4⟩ := src_list (g := g) (H := H) hs
        have hpos : 0 < ns.length := List.length_pos_iff.2 h0
        have hxs : n * P.cellsOf e ≤ cur.size := by rw [hsz]; exact Nat.mul_le_mul_right _ (by omega)
        by_cases hroom : n + ns.length ≤ cap
        · have hfit : n * P.cellsOf e + news.length ≤ cur.size := by rw [n1, hsz, ← Nat.add_mul]; exact Nat.mul_le_mul_right _ hroom
          have hr := run_append_room (P := P) w t tr e i ht hi b n cap cur hw ⟨b2, o2, none⟩ ns.length c news (by rw [n1, hcs]) n2 n3 hroom (by rw [← hcs]; exact hfit)
          have hfit' : n * P.cellsOf e + news.length ≤ cur.toList.length := by simpa using hfit
          have hsp := spl_get hfit'
          rw [← hcs] at hr
          have hg := hrel_grow (w' := w.setRow b (spl cur.toList (n * P.cellsOf e) news).toArray) (n := n) h hY hTr hn hns (v := .slice (some ⟨b, 0, none⟩) (n + ns.length) cap) (nb := b) rfl
            (frm_set h.frm hw hfit (by rcases hpl with q | q; · exact .inl q
                                       · exact .inr fun k _ _ => q k))
            (setRow_heap w b cur _ e (0, 0) hw) (fun b' _ hb' => setRow_other w b b' _ hb') (.inr hown) hpl hroom hcm (by simp [spl_length hfit', hsz])
            (hold0 _ fun k hk => by simp only [List.getElem?_toArray, hsp, if_pos hk, Array.getElem?_toList])
            (fun i r hr => by
              obtain ⟨m1, m2⟩ := n4 i r hr
              refine ⟨m1, fun j c hc => ?_⟩
              obtain ⟨u, m3, m4⟩ := m2 j c hc
              have hlt := (List.getElem?_eq_some_iff.1 m3).1
              refine ⟨u, ?_, m4⟩
              simp only [List.getElem?_toArray, hsp]
              rw [if_neg (by rw [Nat.add_mul]; omega), if_pos (by rw [Nat.add_mul]; omega), show (n + i) * P.cellsOf e + j - n * P.cellsOf e = i * P.cellsOf e + j by rw [Nat.add_mul]; omega]
              exact m3)
          exact ⟨_, _, _, hr, (fun X hX => by simp [Gh.grow, hX]), hg.1, hg.2, hle _ _⟩
        · have hol : (cur.toList.take (n * P.cellsOf e)).length = n * i.size := by rw [List.length_take, ← hcs]; simp; omega
          have holds : ∀ (j : Nat) (v : Value), (cur.toList.take (n * P.cellsOf e))[j]? = some v → w.cell? ((⟨b, 0, none⟩ : Addr).add j) = some v := by
            intro j v hj
            rw [List.getElem?_take] at hj
            split at hj
            · rw [add_off, cell_of_row w b _ cur e (0, 0) hw]
              simpa using hj
            · cases hj
          have hr := run_append_grow (P := P) w t tr e i zv ht hi hiz ⟨b, 0, none⟩ n cap (cur.toList.take (n * P.cellsOf e)) hol holds ⟨b2, o2, none⟩ ns.length c news (by rw [n1, hcs]) n2 (by omega) (by omega) (growslice_fits (by omega) (by rw [hib]; exact hbytes))
          have hge := grownCap_ge w (n + ns.length) cap e
          have hgm := grownCap_le_maxLen w (n + ns.length) cap e hmax
          have hlt0 : (cur.toList.take (n * P.cellsOf e)).length = n * P.cellsOf e := by rw [hol, hcs]
          have hg := hrel_grow (w' := w.drew.alloc (.cells ((cur.toList.take (n * P.cellsOf e)).toArray ++ news.toArray ++ Builtin.zeroCells zv.cells (grownCap w (n + ns.length) cap e - (n + ns.length))) e)) (n := n) h hY hTr hn hns
            (v := .slice (some ⟨w.heap.size, 0, none⟩) (n + ns.length) (grownCap w (n + ns.length) cap e)) (nb := w.heap.size) rfl (h.frm.drew.alloc _) (heap_alloc_new w.drew _) (fun b hb _ => Below.heap_alloc w.drew _ b hb) (.inl rfl) (.inl h.frm.size)
            hge hgm (by
              simp only [Array.size_append, List.size_toArray, size_zeroCells, n1, hzs, hzl, hlt0]
              rw [← his, hcs, ← Nat.add_mul, ← Nat.add_mul]
              congr 1
              omega)
            (hold0 _ fun k hk => by
              rw [Array.append_assoc, Array.getElem?_append_left (by simpa [hlt0] using hk)]
              simp only [List.getElem?_toArray, List.getElem?_take, if_pos hk, Array.getElem?_toList])
            (fun i r hr => by
              obtain ⟨m1, m2⟩ := n4 i r hr
              refine ⟨m1, fun j c hc => ?_⟩
              obtain ⟨u, m3, m4⟩ := m2 j c hc
              have hlt := (List.getElem?_eq_some_iff.1 m3).1
              refine ⟨u, ?_, m4⟩
              rw [Array.getElem?_append_left (by simp only [Array.size_append, List.size_toArray, hlt0]; rw [Nat.add_mul]; omega), Array.getElem?_append_right (by simp only [List.size_toArray, hlt0]; rw [Nat.add_mul]; omega)]
              simp only [List.size_toArray, hlt0, List.getElem?_toArray]
              rw [show (n + i) * P.cellsOf e + j - n * P.cellsOf e = i * P.cellsOf e + j by rw [Nat.add_mul]; omega]
              exact m3)
          exact ⟨_, _, _, hr, (fun X hX => by simp [Gh.grow, hX]), hg.1, hg.2, hle _ _⟩
end
end Go.Proofs.Ytchkbgekmoileaa

/- The value-level engine, fourteenth part: every operation but calls. -/
namespace Go.Proofs.Ytchkbgekmoileaa
open Go Go.RowKit
set_option linter.unusedVariables false
set_option linter.unusedSimpArgs false

def St.putd (s : St) (d : Option Nat) (x : VV) : Option St :=
  match d with
  | some d => if d < s.N then some (s.put d x) else none
  | none => some s

/-- Is there room for k tokens? -/
def St.room (s : St) (k : Nat) : Bool :=
  match s.lim with
  | none => true
  | some m => decide (s.nx + k ≤ m)

def chunks (sz n : Nat) (l : List PT) : List (List PT) := (List.range n).map fun i => (l.drop (i * sz)).take sz

def VV.known : VV → Bool
  | .any => false
  | _ => true

def zPT : VV → PT
  | .int k n => .int k n
  | .bool b => .bool b
  | .str s => .str s
  | .nl e => .list e []
  | _ => .hole

def scal : PT → Bool
  | .int _ _ | .bool _ | .str _ => true
  | _ => false

def xBox (s : St) (vs : List VV) (dst : Option Nat) : Option St :=
  if vs = [] ∨ s.room 1 = false then none else St.putd { s with H := updH s.nx (.box vs) s.H, nx := s.nx + 1 } dst (.bp s.nx 0)

def xStore (ty : Ty) (s : St) (t : TypeId) (x y : VV) : Option St :=
  match y.cells with
  | none => none
  | some vs =>
    if vs.length = sizeT ty t ∧ 0 < vs.length ∧ vs.all VV.known = true then
      match x with
      | .bp T j => match s.H T with
        | .box cs => if j + vs.length ≤ cs.length then some { s with H := updH T (.box (spl cs j vs)) s.H } else none
        | _ => none
      | .np T i j => match toCells vs s.nx s.H with
        | some (ps, n, H) => match s.H T with
          | .root e rows => match rows[i]? with
            | some r => if j + ps.length ≤ r.length ∧ s.room (n - s.nx) = true then some { s with H := updH T (.root e (rows.set i (spl r j ps))) H, nx := n } else none
            | none => none
          | _ => none
        | none => none
      | _ => none
    else none

def xBuildSlice (ty : Ty) (s : St) (t : TypeId) (len : Nat) (parts : List (Nat × VV)) (dst : Option Nat) : Option St :=
  match ty t with
  | some ⟨.sl e, _, _, _⟩ => match ty e with
    | some d =>
      if d.size = 0 ∨ d.zero = [] ∨ 16777216 < len * d.size then none else
      match vfill (fun i => some (i * d.size, d.size)) (List.replicate (len * d.size) .any) parts with
      | some flat => match toCells flat s.nx s.H with
        | some (ps, n, H) => if s.room (n + 1 - s.nx) = true then St.putd { s with H := updH n (.root e (chunks d.size len ps)) H, nx := n + 1 } dst (.rf n len) else none
        | none => none
      | none => none
    | none => none
  | _ => none

def xMake (ty : Ty) (s : St) (t : TypeId) (l c : VV) (dst : Option Nat) : Option St :=
  match ty t, l, c with
  | some ⟨.sl e, _, _, _⟩, .int _ n, .int _ m => match ty e with
    | some d =>
      if n = m ∧ 0 ≤ n ∧ (d.bytes : Int) * n ≤ 281474976710656 ∧ n ≤ 9223372036854775807 ∧ d.zero ≠ [] ∧ d.zero.length = d.size ∧ s.room 1 = true then
        St.putd { s with H := updH s.nx (.root e (List.replicate n.toNat (d.zero.map zPT))) s.H, nx := s.nx + 1 } dst (.rf s.nx n.toNat)
      else none
    | none => none
  | _, _, _ => none

/-- A cell of a slice that came in, as a cell of the call's own: a slice in it stays what came in. -/
def fzC : PT → PT
  | .list e rows => .fz e rows
  | c => c
def frCell : PT → Bool
  | .int _ _ | .bool _ | .str _ | .list _ _ => true
  | _ => false
def fzRows (rows : List (List PT)) : List (List PT) := rows.map fun r => r.map fzC
def frRows (rows : List (List PT)) : Bool := rows.all fun r => r.all frCell
theorem fzRows_scal {rows : List (List PT)} (h : (rows.all fun r => r.all scal) = true) : fzRows rows = rows := by
  unfold fzRows
  refine (List.map_congr_left fun r hr => ?_).trans (List.map_id _)
  refine (List.map_congr_left fun c hc => ?_).trans (List.map_id _)
  have := List.all_eq_true.mp (List.all_eq_true.mp h r hr) c hc
  cases c <;> first | rfl | (simp [scal] at this)
theorem frRows_scal {rows : List (List PT)} (h : (rows.all fun r => r.all scal) = true) : frRows rows = true := by
  refine List.all_eq_true.2 fun r hr => List.all_eq_true.2 fun c hc => ?_
  have := List.all_eq_true.mp (List.all_eq_true.mp h r hr) c hc
  cases c <;> first | rfl | (simp [scal] at this)

/-- The rows of what is appended. -/
def srcRows (s : St) (x : VV) : Option (List (List PT)) :=
  match x with
  | .nl _ => some []
  | .fr _ rows => if frRows rows = true then some (fzRows rows) else none
  | .rf T m => match s.H T with
    | .root _ rows => if m ≤ rows.length ∧ (rows.take m).all (·.all plainCell) = true then some (rows.take m) else none
    | _ => none
  | _ => none
def srcTy (s : St) (x : VV) (e : TypeId) : Bool :=
  match x with
  | .nl _ => true
  | .fr e' _ => e' == e
  | .rf T _ => match s.H T with
    | .root e' _ => e' == e
    | _ => false
  | _ => false

def xAppend (ty : Ty) (s : St) (t : TypeId) (x y : VV) (dst : Option Nat) : Option St :=
  match ty t with
  | some ⟨.sl e, _, _, _⟩ => match ty e, srcRows s y with
    | some d, some ns =>
      if d.zero ≠ [] ∧ d.zero.length = d.size ∧ srcTy s y e = true then
        match x with
        | .nl _ =>
          if ns.length * d.bytes ≤ 140737488355328 ∧ ns.length ≤ maxLen ∧ s.room 2 = true then
            St.putd { s with H := updH (s.nx + 1) (.root e ns) (updH s.nx .dead (updH s.nx (.root e []) s.H)), nx := s.nx + 2 } dst (.rf (s.nx + 1) ns.length)
          else none
        | .rf T n => match s.H T with
          | .root e' rows =>
            if e' = e ∧ n ≤ rows.length ∧ (n + ns.length) * d.bytes ≤ 140737488355328 ∧ n + ns.length ≤ maxLen ∧ s.room 1 = true then
              St.putd { s with H := updH s.nx (.root e (rows.take n ++ ns)) (updH T .dead s.H), nx := s.nx + 1 } dst (.rf s.nx (n + ns.length))
            else none
          | _ => none
        | _ => none
      else none
    | _, _ => none
  | _ => none

/-- An operation, but a call of a function. -/
def vexec (ty : Ty) (s : St) (o : Oper) : Option St :=
  match o.op with
  | .alloc t => match ty t with
    | some d => xBox s d.zero o.dst
    | none => none
  | .box t x => match (ev s x).cells with
    | some vs => xBox s vs o.dst
    | none => none
  | .store t x y => match o.dst with
    | none => xStore ty s t (ev s x) (retype ty t (ev s y))
    | some _ => none
  | .build t parts => (vBuild ty t (evParts ty s t parts)).bind (s.putd o.dst)
  | .buildSlice t len parts => xBuildSlice ty s t len (evParts ty s t parts) o.dst
  | .makeSlice t l c => xMake ty s t (ev s l) (ev s c) o.dst
  | .call c => match c.callee with
    | .builtin .append => match c.args.toList, c.argTypes.toList with
      | [x, y], [t, t'] => if t = t' then xAppend ty s t (retype ty t (ev s x)) (ev s y) o.dst else none
      | _, _ => none
    | _ => (vval ty s o).bind (s.putd o.dst)
  | _ => (vval ty s o).bind (s.putd o.dst)

section
variable {P : Program} {E : Env} {g g' : Gh} {s : St} {a : Act} {w w' : World} {ty : Ty}

/-- The operation goes well, and the state behind it is this one. -/
def Does (P : Program) (E : Env) (g : Gh) (s : St) (a : Act) (w : World) (o : Oper) (s' : St) : Prop :=
  ∃ g' a' w', Rel P E g' s' a' w' ∧ HLe g s.H g' s'.H ∧ (∀ T, (s.nx ≤ T → s'.nx ≤ T) → g'.sn T = g.sn T) ∧
    ((∃ v, (execOp a.eval o).run P w = .ok (.value v) w' ∧ a' = a.put o.dst v) ∨ ((execOp a.eval o).run P w = .ok .skip w' ∧ a' = a.put o.dst undef))

theorem rel_step (h : Rel P E g s a w) {H' : Heap} {n' : Nat} (hle : HLe g s.H g' H') (hh : HRel P E g' H' w') (hf : ∀ T, ({ s with H := H', nx := n' } : St).fresh T → g'.sn T = false) :
    Rel P E g' { s with H := H', nx := n' } a w' :=
  ⟨h.size, h.defers, hh, hf, fun t => vrel_mono hle (h.tmps t), E.pinOk _ _ _ _ hle h.pin⟩

theorem putd_rel {s' : St} (h : Rel P E g s a w) {d : Option Nat} {x : VV} {v : Value} (hx : VRel P E s.H g x v) (hp : s.putd d x = some s') : Rel P E g s' (a.put d v) w ∧ s'.H = s.H ∧ s'.nx = s.nx := by
  cases d with
  | none =>
    simp only [St.putd, Option.some.injEq] at hp
    subst hp
    exact ⟨h, rfl, rfl⟩
  | some d =>
    simp only [St.putd] at hp
    split at hp
    · rename_i hd
      simp only [Option.some.injEq] at hp
      subst hp
      exact ⟨put_rel h hd hx, rfl, rfl⟩
    · cases hp

theorem does_val (hT : TyOK P ty) (h : Rel P E g s a w) {o : Oper} {s' : St} {x : VV} (hg : Gives P E g s a w o x) (hp : s.putd o.dst x = some s') : Does P E g s a w o s' := by
  obtain ⟨v, h1, h2⟩ := hg
  obtain ⟨h3, h4, h5⟩ := putd_rel h h2 hp
  exact ⟨g, _, w, h3, by rw [h4]; exact HLe.refl _ _, fun _ _ => rfl, .inl ⟨v, h1, rfl⟩⟩

theorem fresh_at (h : Rel P E g s a w) {k : Nat} (hr : s.room k = true) {X : Nat} (h1 : s.nx ≤ X) (h2 : X < s.nx + k) : g.sn X = false := by
  refine h.fresh X ⟨h1, ?_⟩
  unfold St.room at hr
  cases hl : s.lim with
  | none => trivial
  | some m =>
    rw [hl] at hr
    have : s.nx + k ≤ m := by simpa using hr
    show X < m
    omega
theorem fresh_on {s : St} {H' : Heap} {n' T : Nat} (hn : s.nx ≤ n') (h : ({ s with H := H', nx := n' } : St).fresh T) : s.fresh T ∧ n' ≤ T := by
  obtain ⟨h1, h2⟩ := h
  exact ⟨⟨Nat.le_trans hn h1, h2⟩, h1⟩

theorem does_box (h : Rel P E g s a w) {o : Oper} {s' : St} {vs : List VV} {V : Value} {e : TypeId} (hx : xBox s vs o.dst = some s') (hl : LRel P E s.H g vs V.cells.toList)
    (hr : (execOp a.eval o).run P w = .ok (.value (.pointer (some ⟨w.heap.size, 0, none⟩))) (w.alloc (.cells V.cells e))) : Does P E g s a w o s' := by
  unfold xBox at hx
  split at hx
  · cases hx
  · rename_i hc
    have hroom : s.room 1 = true := by
      cases hq : s.room 1 with
      | true => rfl
      | false => exact absurd (.inr hq) hc
    have hX := fresh_at h hroom (Nat.le_refl _) (by omega)
    obtain ⟨h1, hle⟩ := hrel_box h.heap hX vs V.cells.toList e hl.1 hl.2
    simp only [Array.toArray_toList] at h1
    have h2 := rel_step (n' := s.nx + 1) h hle h1 (fun T hT => by
      obtain ⟨f1, f2⟩ := fresh_on (Nat.le_succ _) hT
      have : T ≠ s.nx := by omega
      simp [Gh.box, this, h.fresh T f1])
    have hp : VRel P E (updH s.nx (.box vs) s.H) (g.box s.nx w.heap.size) (.bp s.nx 0) (.pointer (some ⟨w.heap.size, 0, none⟩)) :=
      ⟨by simp [Gh.box], rfl, fun _ => by simp [Gh.box]⟩
    obtain ⟨h3, h4, h5⟩ := putd_rel h2 hp hx
    refine ⟨_, _, _, h3, by rw [h4]; exact hle, fun T hT => ?_, .inl ⟨_, hr, rfl⟩⟩
    rw [h5] at hT
    have hT : s.nx ≤ T → s.nx + 1 ≤ T := hT
    have : T ≠ s.nx := by omega
    simp [Gh.box, this]

theorem lrel_one {H : Heap} {vs : List VV} {us : List Value} (h : LRel P E H g vs us) (hn : ∀ x ∈ vs, x ≠ .any) : ∀ u ∈ us, u.oneCell' = true := by
  intro u hu
  obtain ⟨j, hj⟩ := List.getElem?_of_mem hu
  have hlt : j < vs.length := by
    have := (List.getElem?_eq_some_iff.1 hj).1
    rw [h.1] at this
    exact this
  exact crel_one (h.2 j _ u (List.getElem?_eq_getElem hlt) hj) (hn _ (List.getElem_mem hlt))

theorem run_store_cells (hT : TyOK P ty) {t : TypeId} {V : Value} (hs : V.cells.toList.length = sizeT ty t) (h0 : 0 < V.cells.toList.length) {b o : Nat} {cur : Array Value} {e : TypeId} (hw : w.heap[b]? = some (.cells cur e (0, 0)))
    (hl : o + V.cells.toList.length ≤ cur.size) (h1 : ∀ u ∈ V.cells.toList, u.oneCell' = true) :
    (Instr.storeAt t (.pointer (some ⟨b, o, none⟩)) V).run P w = .ok () (w.setRow b (spl cur.toList o V.cells.toList).toArray) := by
  obtain ⟨d, hd, hsz⟩ := sizeT_spec hT (t := t) (by omega)
  have h2 := (hT t d hd).run_size w
  have h3 := run_storeCells_at P b o e V.cells.toList 0 cur w hw (by simpa using hl) h1
  have hne : ¬ (V.cells.size ≠ d.size) := by rw [hsz, ← hs]; simp
  simp only [Nat.add_zero] at h3
  simp only [Instr.storeAt, Instr.sureAddr, Sem.run_bind, Sem.run_pure, Result.andThen_ok, storeVar, h2, if_neg hne]
  exact h3

/-- No cell that is not known. -/
def noAny (vs : List VV) : Prop := ∀ x ∈ vs, x ≠ .any

theorem does_store (hT : TyOK P ty) (h : Rel P E g s a w) {o : Oper} {t : TypeId} {x y : Operand} {s' : St} (ho : o.op = .store t x y) (hdst : o.dst = none) (hx : xStore ty s t (ev s x) (retype ty t (ev s y)) = some s') : Does P E g s a w o s' := by
  have hxr := ev_rel h x
  have hyr := retype_rel (ty := ty) t (ev_rel h y)
  suffices hh : ∃ g' w', (Instr.storeAt t (a.eval x) (a.eval y)).run P w = .ok () w' ∧ Rel P E g' s' a w' ∧ HLe g s.H g' s'.H ∧ (∀ T, (s.nx ≤ T → s'.nx ≤ T) → g'.sn T = g.sn T) by
    obtain ⟨g', w', h1, h2, h3, h4⟩ := hh
    exact ⟨g', a, w', h2, h3, h4, .inr ⟨by simp [execOp, ho, h1], by rw [hdst]; rfl⟩⟩
  generalize a.eval x = X at *
  generalize ev s x = vx at *
  generalize a.eval y = Y at *
  generalize retype ty t (ev s y) = vy at *
  unfold xStore at hx
  split at hx
  · cases hx
  · rename_i vs hvs
    have hl := cells_rel hvs hyr
    split at hx
    · rename_i hsz
      obtain ⟨hsz, h0, hk⟩ := hsz
      have h1 := lrel_one hl (fun x hx hh => by have := List.all_eq_true.mp hk x hx; rw [hh] at this; cases this)
      split at hx
      · rename_i T j
        split at hx
        · rename_i cs hcs
          split at hx
          · rename_i hj
            simp only [Option.some.injEq] at hx
            subst hx
            obtain ⟨_, _, hv⟩ := hxr
            have hv := hv (by simp [hcs, Ent.live])
            subst hv
            obtain ⟨cur, e, hw, hlen, hrel⟩ := hrel_store_box h.heap hcs hj h0 hl.1 hl.2
            have hr := run_store_cells hT (by rw [hl.1]; exact hsz) (by rw [hl.1]; exact h0) hw hlen h1
            have hle : HLe g s.H g (updH T (.box (spl cs j vs)) s.H) := hle_same (by simp [hcs, Ent.live]) (fun t rows h => by cases h)
            exact ⟨g, _, hr, rel_step h hle hrel (fun X hX => h.fresh X hX), hle, fun _ _ => rfl⟩
          · cases hx
        · cases hx
      · rename_i T i j
        split at hx
        · rename_i ps n H2 htc
          split at hx
          · rename_i e rows hroot
            split at hx
            · rename_i r hr
              split at hx
              · rename_i hj
                obtain ⟨hj, hroom⟩ := hj
                simp only [Option.some.injEq] at hx
                subst hx
                have hTlt : g.sn T = true := own_root_lt h.heap hroot
                have hnn := toCells_le _ _ _ _ _ _ htc
                obtain ⟨_, g1, k2, k3, k4, k5, k5', k6, k7, k8⟩ := toCells_rel vs Y.cells.toList s.nx s.H g ps n H2 htc h.heap (fun X hX hX2 => fresh_at h hroom hX (by omega)) hl
                obtain ⟨_, _, hv⟩ := hxr
                obtain ⟨b, m, c, hhd, rfl⟩ := hv e rows hroot
                have hroot2 : H2 T = .root e rows := by rw [k5 T hTlt]; exact hroot
                obtain ⟨b', n', cap', cur, q1, q2, q3, q4⟩ := hrel_store_root k2 hroot2 hr hj (by rw [k6]; exact h0) k8 (by rw [k6]; exact hl.1) k7
                have hbb : b' = b := by
                  rw [(k5' T hTlt).2, hhd] at q1
                  injection q1 with q1
                  injection q1 with q1
                  injection q1 with q1
                  exact q1.symm
                subst hbb
                have hrun := run_store_cells hT (by rw [hl.1]; exact hsz) (by rw [hl.1]; exact h0) q2 q3 h1
                have hle2 : HLe g1 H2 g1 (updH T (.root e (rows.set i (spl r j ps))) H2) := hle_same (by simp [hroot2, Ent.live]) (fun t rows' hh => by injection hh with e1 e2; subst e1; exact ⟨rows, hroot2⟩)
                refine ⟨g1, _, hrun, rel_step h (k4.trans hle2) q4 (fun X hX => ?_), k4.trans hle2, fun X hX => k3 X hX⟩
                obtain ⟨f1, f2⟩ := fresh_on hnn hX
                rw [k3 X (fun _ => f2)]
                exact h.fresh X f1
              · cases hx
            · cases hx
          · cases hx
        · cases hx
      · cases hx
    · cases hx

theorem chunk_get {sz n : Nat} {l : List PT} (hl : l.length = n * sz) {i : Nat} {r : List PT} (hr : (chunks sz n l)[i]? = some r) : i < n ∧ r.length = sz ∧ ∀ (j : Nat) (c : PT), r[j]? = some c → l[i * sz + j]? = some c := by
  have hi : i < n := by
    have := (List.getElem?_eq_some_iff.1 hr).1
    simpa [chunks] using this
  simp only [chunks, List.getElem?_map, List.getElem?_range hi, Option.map_some, Option.some.injEq] at hr
  subst hr
  have hb : (i + 1) * sz ≤ n * sz := Nat.mul_le_mul_right _ hi
  rw [Nat.add_mul] at hb
  refine ⟨hi, by simp [hl]; omega, fun j c hc => ?_⟩
  rw [List.getElem?_take] at hc
  split at hc
  · rwa [List.getElem?_drop] at hc
  · cases hc

theorem run_buildSlice {t e : TypeId} {sz len : Nat} {zv : Value} (hu : P.underlying t = some (.slice e)) (hs : (sizeOf e).run P w = .ok sz w) (hz : (zeroValue e).run P w = .ok zv w) (hl : len * sz ≤ 16777216)
    (parts : Array (Nat × Value)) (cells : Array Value)
    (hf : Instr.fill (fun i => some (i * sz, sz)) ((Array.range (len * sz)).map ((if len * sz = 0 then #[] else zv.cells)[· % (if len * sz = 0 then (#[] : Array Value) else zv.cells).size]!)) parts.toList = some cells) :
    (Instr.buildSlice t len parts).run P w = .ok (.slice (some ⟨w.heap.size, 0, none⟩) len len) (w.alloc (.cells cells e)) := by
  have hn : ¬ (len * sz > 2 ^ 24) := by omega
  by_cases h0 : len * sz = 0
  · rw [if_pos h0] at hf
    simp only [Instr.buildSlice, Sem.run_bind, run_underlying hu, Result.andThen_ok, hs, if_neg hn, if_pos h0, Sem.run_pure]
    simp only [hf]
    simp [newRow]
  · rw [if_neg h0] at hf
    simp only [Instr.buildSlice, Sem.run_bind, run_underlying hu, Result.andThen_ok, hs, if_neg hn, if_neg h0, hz, Sem.run_pure]
    simp only [hf]
    simp [newRow]

theorem does_buildSlice (hT : TyOK P ty) (h : Rel P E g s a w) {o : Oper} {t : TypeId} {len : Nat} {parts : Array (Nat × Operand)} {s' : St} (ho : o.op = .buildSlice t len parts)
    (hx : xBuildSlice ty s t len (evParts ty s t parts) o.dst = some s') : Does P E g s a w o s' := by
  obtain ⟨hp1, hp2⟩ := evParts_rel (ty := ty) h t parts
  have hl : (parts.map fun x => (x.1, a.eval x.2)).toList = parts.toList.map fun x => (x.1, a.eval x.2) := by simp
  unfold xBuildSlice at hx
  split at hx
  · rename_i e _ _ _ ht
    split at hx
    · rename_i d hde
      split at hx
      · cases hx
      · rename_i hc
        have hc1 : d.size ≠ 0 := fun hh => hc (.inl hh)
        have hc2 : d.zero ≠ [] := fun hh => hc (.inr (.inl hh))
        have hc3 : ¬ 16777216 < len * d.size := fun hh => hc (.inr (.inr hh))
        split at hx
        · rename_i flat hfl
          split at hx
          · rename_i ps n H2 htc
            split at hx
            rotate_left
            · cases hx
            rename_i hroom
            have hnn := toCells_le _ _ _ _ _ _ htc
            have hu : P.underlying t = some (.slice e) := (hT t _ ht).desc
            have hse := (hT e d hde).run_size w
            have hce := (hT e d hde).cells
            obtain ⟨zv, hzr, _, hzs, _⟩ := zero_rel (P := P) (E := E) (H := s.H) (g := g) (w := w) hT hde hc2
            -- what the machine begins with
            have hany : ∀ ds : List Value, ds.length = len * d.size → LRel P E s.H g (List.replicate (len * d.size) .any) ds := by
              intro ds hds
              refine ⟨by simpa using hds, fun j c u hj hu => ?_⟩
              rw [List.getElem?_replicate] at hj
              split at hj
              · simp only [Option.some.injEq] at hj; subst hj; trivial
              · cases hj
            let Z : Array Value := if len * d.size = 0 then #[] else zv.cells
            let ds : List Value := ((Array.range (len * d.size)).map (Z[· % Z.size]!)).toList
            have hds : ds.length = len * d.size := by simp [ds]
            obtain ⟨es, he, hre⟩ := fill_rel (P := P) (E := E) (g := g) (H := s.H) _ _ _ _ _ hp1 hp2 (hany ds hds) hfl
            obtain ⟨_, g1, k2, k3, k4, k5, k5', k6, k7, k8⟩ := toCells_rel flat es s.nx s.H g ps n H2 htc h.heap (fun X hX hX2 => fresh_at h hroom hX (by omega)) hre
            have hY : g1.sn n = false := by rw [k3 n (fun _ => Nat.le_refl _)]; exact fresh_at h hroom hnn (by omega)
            have hflat : ∀ (parts : List (Nat × VV)) (cs r : List VV), vfill (fun i => some (i * d.size, d.size)) cs parts = some r → r.length = cs.length := by
              intro parts
              induction parts with
              | nil => intro cs r hh; simp only [vfill, Option.some.injEq] at hh; rw [hh]
              | cons x parts ih =>
                intro cs r hh
                obtain ⟨i, v⟩ := x
                simp only [vfill] at hh
                split at hh
                · split at hh
                  · rename_i hq
                    rw [ih _ _ hh, spl_length hq.2]
                  · cases hh
                · cases hh
            have hpsl : ps.length = len * d.size := by rw [k6, hflat _ _ _ hfl]; simp
            have hel : es.length = len * d.size := by rw [hre.1, ← k6, hpsl]
            have hrl : (chunks d.size len ps).length = len := by simp [chunks]
            have hf2 := hrel_fresh (e := e) (rows := chunks d.size len ps) (cap := len) (cur := es.toArray) k2 hY (fun r hr c hcr => by
              obtain ⟨i, hi⟩ := List.getElem?_of_mem hr
              obtain ⟨_, _, hcell⟩ := chunk_get hpsl hi
              obtain ⟨j, hj⟩ := List.getElem?_of_mem hcr
              have := k8 _ c (hcell j c hj)
              cases c with
              | list e2 rows2 => exact absurd rfl (this _ _)
              | _ => trivial) (by rw [hrl]; exact Nat.le_refl _) (by
                have h0 : 0 < d.size := by omega
                have := Nat.le_mul_of_pos_right len h0
                simp only [maxLen]; omega) (by rw [hce]; simpa using hel) (fun i r hr => by
              obtain ⟨hi, hrlen, hcell⟩ := chunk_get hpsl hr
              refine ⟨by rw [hce]; exact hrlen, fun j c hcj => ?_⟩
              have h1 := hcell j c hcj
              have hlt : i * d.size + j < es.length := by rw [hel, ← hpsl]; exact (List.getElem?_eq_some_iff.1 h1).1
              exact ⟨es[i * d.size + j], by rw [hce]; simp [hlt], k7 _ c _ _ h1 (List.getElem?_eq_getElem hlt)⟩)
            rw [hrl] at hf2
            have hle2 : HLe g1 H2 _ _ := hle_new (g := g1) (H := H2) (e := .root e (chunks d.size len ps)) hY (g' := g1.fresh n (some w.heap.size) (.slice (some ⟨w.heap.size, 0, none⟩) len len)) (fun T hT => by simp [Gh.fresh, hT]) (fun T p hT => by simp [Gh.fresh, hT]) (fun T hT => rfl)
            have h2 := rel_step (n' := n + 1) h (k4.trans hle2) hf2.1 (fun T hT => by
              obtain ⟨f1, f2⟩ := fresh_on (by omega) hT
              have : T ≠ n := by omega
              simp only [Gh.fresh, this, if_false]
              rw [k3 T (fun _ => by omega)]
              exact h.fresh T f1)
            have hx' := hx
            obtain ⟨h3, h4, h5⟩ := putd_rel h2 (vrel_of_crel hf2.2) hx'
            refine ⟨_, _, _, h3, by rw [h4]; exact k4.trans hle2, fun T hT => ?_, .inl ⟨_, ?_, rfl⟩⟩
            · rw [h5] at hT
              have hT : s.nx ≤ T → n + 1 ≤ T := hT
              have : T ≠ n := by omega
              simp only [Gh.fresh, this, if_false]
              exact k3 T (fun _ => by omega)
            have hrun := run_buildSlice (w := w) (len := len) hu hse hzr (by omega) (parts.map fun x => (x.1, a.eval x.2)) es.toArray (by
              rw [hl]
              have : ds.toArray = (Array.range (len * d.size)).map (Z[· % Z.size]!) := Array.toArray_toList
              rw [← this]
              exact he)
            simp [execOp, ho, hrun]
          · cases hx
        · cases hx
    · cases hx
  · cases hx

theorem does_make (hT : TyOK P ty) (h : Rel P E g s a w) {o : Oper} {t : TypeId} {l c : Operand} {s' : St} (ho : o.op = .makeSlice t l c)
    (hx : xMake ty s t (ev s l) (ev s c) o.dst = some s') : Does P E g s a w o s' := by
  have hl := ev_rel h l
  have hc := ev_rel h c
  suffices hh : ∃ g' v w', (Instr.makeSlice t (a.eval l) (a.eval c)).run P w = .ok v w' ∧ Rel P E g' s' (a.put o.dst v) w' ∧ HLe g s.H g' s'.H ∧ (∀ T, (s.nx ≤ T → s'.nx ≤ T) → g'.sn T = g.sn T) by
    obtain ⟨g', v, w', h1, h2, h3, h4⟩ := hh
    exact ⟨g', _, w', h2, h3, h4, .inl ⟨v, by simp [execOp, ho, h1], rfl⟩⟩
  generalize a.eval l = L at *
  generalize ev s l = vl at *
  generalize a.eval c = C at *
  generalize ev s c = vc at *
  unfold xMake at hx
  split at hx
  · rename_i e _ _ _ k n k' m ht
    obtain rfl : L = .int k n := hl
    obtain rfl : C = .int k' m := hc
    split at hx
    · rename_i d hde
      split at hx
      · rename_i hc
        obtain ⟨rfl, c0, c1, c2, c3, c4, hroom⟩ := hc
        have hY := fresh_at h hroom (Nat.le_refl _) (by omega)
        have hu : P.underlying t = some (.slice e) := (hT t _ ht).desc
        have hce := (hT e d hde).cells
        obtain ⟨zv, hzr, hzl, hzs, i, hi, hiz, his, hib⟩ := zero_rel (P := P) (E := E) (H := s.H) (g := g) (w := w) hT hde c3
        have hr := run_make (P := P) w t e i zv hu hi hiz k k' n n c0 (Int.le_refl _) (by rw [hib]; exact c1) c2
        have hrl : (List.replicate n.toNat (d.zero.map zPT)).length = n.toNat := by simp
        have hconst : ∀ (j : Nat) (x : VV), d.zero[j]? = some x → ∃ u, zv.cells[j]? = some u ∧ x.const? = some u := by
          intro j x hj
          obtain ⟨i2, hi2, _, _, hzz⟩ := (hT e d hde).info
          rcases hzz with h0 | ⟨zv2, h1, h2⟩
          · exact absurd h0 c3
          · rw [hi] at hi2
            injection hi2 with hi2
            subst hi2
            rw [hiz] at h1
            injection h1 with h1
            subst h1
            have h3 := congrArg (fun l => l[j]?) h2
            simp only [List.getElem?_map, hj, Option.map_some] at h3
            cases hq : zv.cells.toList[j]? with
            | none => rw [hq] at h3; cases h3
            | some u =>
              rw [hq] at h3
              simp only [Option.map_some, Option.some.injEq] at h3
              exact ⟨u, by simpa using hq, h3.symm⟩
        have hf2 := hrel_fresh (e := e) (rows := List.replicate n.toNat (d.zero.map zPT)) (cap := n.toNat) (cur := madeCells zv.cells (n.toNat * i.size)) h.heap hY (fun r hr c hcr => by
            rw [List.mem_replicate] at hr
            rw [hr.2, List.mem_map] at hcr
            obtain ⟨x, _, rfl⟩ := hcr
            cases x <;> first | trivial | rfl) (by rw [hrl]; exact Nat.le_refl _) (by simp only [maxLen]; omega) (by rw [hce, size_madeCells, his]) (fun i' r hr => by
            have hi' : i' < n.toNat := by
              have := (List.getElem?_eq_some_iff.1 hr).1
              simpa using this
            rw [List.getElem?_replicate, if_pos hi'] at hr
            simp only [Option.some.injEq] at hr
            subst hr
            refine ⟨by rw [hce, List.length_map, c4], fun j c hcj => ?_⟩
            rw [List.getElem?_map] at hcj
            cases hq : d.zero[j]? with
            | none => rw [hq] at hcj; cases hcj
            | some x =>
              rw [hq] at hcj
              simp only [Option.map_some, Option.some.injEq] at hcj
              subst hcj
              obtain ⟨u, hu1, hu2⟩ := hconst j x hq
              have hjl : j < d.size := by rw [← c4]; exact (List.getElem?_eq_some_iff.1 hq).1
              have hlt : i' * d.size + j < n.toNat * i.size := by
                have hb : (i' + 1) * d.size ≤ n.toNat * d.size := Nat.mul_le_mul_right _ hi'
                rw [Nat.add_mul] at hb
                rw [his]
                omega
              refine ⟨u, ?_, ?_⟩
              · rw [hce]
                have hzsz : zv.cells.size = d.size := by rw [hzs, c4]
                simp only [madeCells, Array.getElem?_map, Array.getElem?_range, if_pos hlt, Option.map_some, hzsz]
                rw [show (i' * d.size + j) % d.size = j by rw [Nat.mul_comm, Nat.mul_add_mod]; exact Nat.mod_eq_of_lt hjl]
                rw [← hu1]
                have : j < zv.cells.size := by omega
                simp [this]
              · cases x <;> simp [VV.const?] at hu2 <;> (subst hu2; rfl))
        rw [hrl] at hf2
        have hle2 := hle_new (g := g) (H := s.H) (e := .root e (List.replicate n.toNat (d.zero.map zPT))) hY (g' := g.fresh s.nx (some w.heap.size) (.slice (some ⟨w.heap.size, 0, none⟩) n.toNat n.toNat)) (fun T hT => by simp [Gh.fresh, hT]) (fun T p hT => by simp [Gh.fresh, hT]) (fun T hT => rfl)
        have h2 := rel_step (n' := s.nx + 1) h hle2 hf2.1 (fun T hT => by
          obtain ⟨f1, f2⟩ := fresh_on (Nat.le_succ _) hT
          have : T ≠ s.nx := by omega
          simp [Gh.fresh, this, h.fresh T f1])
        obtain ⟨h3, h4, h5⟩ := putd_rel h2 (vrel_of_crel hf2.2) hx
        refine ⟨_, _, _, hr, h3, by rw [h4]; exact hle2, fun T hT => ?_⟩
        rw [h5] at hT
        have hT : s.nx ≤ T → s.nx + 1 ≤ T := hT
        have : T ≠ s.nx := by omega
        simp [Gh.fresh, this]
      · cases hx
    · cases hx
  · cases hx

theorem scal_ocell {H : Heap} {c : PT} {hh u hh' : Value} (hs : scal c = true) (hf : fcell c hh u) : ocell P E H g c hh' u ∧ u.oneCell' = true := by
  cases c <;> simp [scal] at hs <;> (have hf : u = _ := hf; subst hf; exact ⟨rfl, rfl⟩)
theorem plain_ocell {H : Heap} {c : PT} {hh u hh' : Value} (hs : plainCell c = true) (hf : ocell P E H g c hh u) : ocell P E H g c hh' u ∧ u.oneCell' = true := by
  cases c
  case list e rows => simp [plainCell] at hs
  case hole => simp [plainCell] at hs
  case ref T n => exact ⟨hf, hf.2.1⟩
  case fz e rows =>
    refine ⟨hf, ?_⟩
    obtain ⟨fh, h0, h1⟩ := hf
    obtain ⟨A, cap, h2, _⟩ := h1 [] e rows rfl
    rw [h0] at h2
    rw [h2]
    rfl
  case int k n => have hf : u = _ := hf; subst hf; exact ⟨rfl, rfl⟩
  case bool k => have hf : u = _ := hf; subst hf; exact ⟨rfl, rfl⟩
  case str k => have hf : u = _ := hf; subst hf; exact ⟨rfl, rfl⟩
theorem scal_plain {c : PT} (hs : scal c = true) : ∀ e rows, c ≠ PT.list e rows := by
  cases c <;> simp [scal] at hs <;> intro e rows h <;> cases h
theorem plain_nolist {c : PT} (hs : plainCell c = true) : ∀ e rows, c ≠ PT.list e rows := by
  cases c <;> simp [plainCell] at hs <;> intro e rows h <;> cases h

theorem src_rel (h : Rel P E g s a w) {y : VV} {e : TypeId} {ns : List (List PT)} (hy : srcRows s y = some ns) (ht : srcTy s y e = true) {Y : Value} (hr : VRel P E s.H g y Y) :
    ∃ A c, Y = .slice A ns.length c ∧ Src P E g s.H w e ns A ∧ (∀ r ∈ ns, ∀ c ∈ r, ∀ e rows, c ≠ PT.list e rows) := by
  unfold srcRows at hy
  split at hy
  · simp only [Option.some.injEq] at hy
    subst hy
    obtain rfl : Y = .slice none 0 0 := hr
    exact ⟨none, 0, rfl, .inl rfl, fun r hr => by simp at hr⟩
  · rename_i e' rows
    split at hy
    · rename_i hsc
      simp only [Option.some.injEq] at hy
      subst hy
      have he : e' = e := by simpa [srcTy] using ht
      subst he
      obtain ⟨fh, hfh, hnode⟩ := hr
      obtain ⟨A, cap, hv, hc1, hc2, hrows⟩ := hnode [] e' rows rfl
      rw [hfh] at hv
      have hall : ∀ r ∈ rows, ∀ c ∈ r, frCell c = true := fun r hr c hc => List.all_eq_true.mp (List.all_eq_true.mp hsc r hr) c hc
      have hlen : (fzRows rows).length = rows.length := by simp [fzRows]
      rw [hlen]
      refine ⟨A, cap, hv, ?_, fun r hr c hc => ?_⟩
      · rcases hrows with h0 | ⟨b, o, rfl, hrows⟩
        · exact .inl (by rw [h0]; rfl)
        · refine .inr ⟨b, o, rfl, fun i r hr => ?_⟩
          simp only [fzRows, List.getElem?_map, Option.map_eq_some_iff] at hr
          obtain ⟨r0, hr0, rfl⟩ := hr
          obtain ⟨h1, h2⟩ := hrows i r0 hr0
          refine ⟨by simpa using h1, fun j c hc => ?_⟩
          simp only [List.getElem?_map, Option.map_eq_some_iff] at hc
          obtain ⟨c0, hc0, rfl⟩ := hc
          obtain ⟨u, h3, h4⟩ := h2 j c0 hc0
          have hs := hall r0 (List.mem_of_getElem? hr0) c0 (List.mem_of_getElem? hc0)
          have hrd : Rd P E c0 u := rd_of_fcell hnode hr0 hc0 h4
          have ho : ∀ hh, ocell P E s.H g (fzC c0) hh u := fun hh => by
            cases c0 <;> first | exact hrd | (simp [frCell] at hs)
          refine ⟨u, rd_cell h.heap.frm h3, ?_, ho⟩
          cases c0 with
          | list e2 rows2 =>
            obtain ⟨fh2, k0, k1⟩ := hrd
            obtain ⟨A2, cap2, k2, _⟩ := k1 [] e2 rows2 rfl
            rw [k0] at k2
            rw [k2]
            rfl
          | ref => simp [frCell] at hs
          | fz => simp [frCell] at hs
          | hole => simp [frCell] at hs
          | int => have hrd : u = _ := hrd; subst hrd; rfl
          | bool => have hrd : u = _ := hrd; subst hrd; rfl
          | str => have hrd : u = _ := hrd; subst hrd; rfl
      · simp only [fzRows, List.mem_map] at hr
        obtain ⟨r0, hr0, rfl⟩ := hr
        simp only [List.mem_map] at hc
        obtain ⟨c0, hc0, rfl⟩ := hc
        have hs := hall r0 hr0 c0 hc0
        intro e rows h
        cases c0 <;> simp [fzC, frCell] at h hs
    · cases hy
  · rename_i T m
    split at hy
    · rename_i e' rows hroot
      split at hy
      · rename_i hc
        obtain ⟨hm, hpl⟩ := hc
        simp only [Option.some.injEq] at hy
        subst hy
        have he : e' = e := by simpa [srcTy, hroot] using ht
        subst he
        obtain ⟨_, _, hv⟩ := hr
        have hv := hv (by simp [hroot, Ent.isRoot])
        have hall : ∀ r ∈ rows.take m, ∀ c ∈ r, plainCell c = true := fun r hr c hc => List.all_eq_true.mp (List.all_eq_true.mp hpl r hr) c hc
        have hlen : (rows.take m).length = m := by simp; omega
        rw [hlen]
        rcases h.heap.node T e' rows hroot [] e' rows rfl with ⟨h1, h2⟩ | ⟨b, cap, cur, h1, h2, h3, h4, h5, h6, h7, h8⟩
        · subst h2
          have : m = 0 := by simpa using hm
          subst this
          rw [h1] at hv
          exact ⟨none, 0, hv, .inl rfl, fun r hr => by simp at hr⟩
        · rw [h1] at hv
          refine ⟨_, cap, hv, .inr ⟨b, 0, rfl, fun i r hr => ?_⟩, fun r hr c hc => plain_nolist (hall r hr c hc)⟩
          have hmem := List.mem_of_getElem? hr
          rw [List.getElem?_take] at hr
          split at hr
          · obtain ⟨g1, g2⟩ := h8 i r hr
            refine ⟨g1, fun j c hc => ?_⟩
            obtain ⟨u, g3, g4⟩ := g2 j c hc
            have hs := hall r hmem c (List.mem_of_getElem? hc)
            refine ⟨u, ?_, (plain_ocell (g := g) (H := s.H) (hh' := undef) hs g4).2, fun hh => (plain_ocell hs g4).1⟩
            rw [Nat.zero_add, cell_of_row w b _ cur e' (0, 0) h4]
            exact g3
          · cases hr
      · cases hy
    · cases hy
  · cases hy

theorem src_mono {H H' : Heap} {e : TypeId} {ns : List (List PT)} {A : Option Addr} (hle : HLe g H g' H') (h : Src P E g H w e ns A) : Src P E g' H' w e ns A := by
  rcases h with h | ⟨b, o, h1, h2⟩
  · exact .inl h
  · refine .inr ⟨b, o, h1, fun i r hr => ?_⟩
    obtain ⟨h3, h4⟩ := h2 i r hr
    refine ⟨h3, fun j c hc => ?_⟩
    obtain ⟨u, h5, h6, h7⟩ := h4 j c hc
    exact ⟨u, h5, h6, fun hh => ocell_mono hle (h7 hh)⟩

theorem does_append (hT : TyOK P ty) (h : Rel P E g s a w) {o : Oper} {c : Call} {x y : Operand} {t : TypeId} {s' : St} (ho : o.op = .call c) (hcal : c.callee = .builtin .append) (hargs : c.args.toList = [x, y]) (hts : c.argTypes.toList = [t, t])
    (hx : xAppend ty s t (retype ty t (ev s x)) (ev s y) o.dst = some s') : Does P E g s a w o s' := by
  have hxr := retype_rel (ty := ty) t (ev_rel h x)
  have hyr := ev_rel h y
  have e1 : c.args = #[x, y] := by rw [← Array.toList_inj]; exact hargs
  have e2 : c.argTypes = #[t, t] := by rw [← Array.toList_inj]; exact hts
  suffices hh : ∃ g' v w', (Builtin.append_ #[t, t] o.type #[a.eval x, a.eval y]).run P w = .ok v w' ∧ Rel P E g' s' (a.put o.dst v) w' ∧ HLe g s.H g' s'.H ∧ (∀ T, (s.nx ≤ T → s'.nx ≤ T) → g'.sn T = g.sn T) by
    obtain ⟨g', v, w', h1, h2, h3, h4⟩ := hh
    exact ⟨g', _, w', h2, h3, h4, .inl ⟨v, by simp [execOp, ho, resolve, hcal, e1, e2, invoke, builtin, h1], rfl⟩⟩
  generalize a.eval x = X at *
  generalize retype ty t (ev s x) = vx at *
  generalize a.eval y = Y at *
  generalize ev s y = vy at *
  unfold xAppend at hx
  split at hx
  · rename_i e _ _ _ ht
    have hu : P.underlying t = some (.slice e) := (hT t _ ht).desc
    split at hx
    · rename_i d ns hde hns
      split at hx
      · rename_i hc
        obtain ⟨c1, c2, c3⟩ := hc
        obtain ⟨A, cc, rfl, hsrc, hpl⟩ := src_rel h hns c3 hyr
        split at hx
        · split at hx
          · rename_i hb
            obtain ⟨hb1, hb2, hroom⟩ := hb
            have hY0 := fresh_at h hroom (Nat.le_refl _) (by omega)
            have hY1 := fresh_at h hroom (X := s.nx + 1) (by omega) (by omega)
            obtain rfl : X = .slice none 0 0 := hxr
            obtain ⟨k1, k2⟩ := hrel_nil h.heap hY0 e
            have hle := hle_new (g := g) (H := s.H) (e := .root e []) hY0 (g' := g.fresh s.nx none (.slice none 0 0)) (fun T hT => by simp [Gh.fresh, hT]) (fun T p hT => by simp [Gh.fresh, hT]) (fun T hT => rfl)
            obtain ⟨v', w', g', m1, m2, m3, m4, m5⟩ := append_rel (tr := o.type) (c := cc) hT k1 (Y := s.nx + 1) (by simp [Gh.fresh, hY1]) hu hde c1 c2 (updH_same _ _ _) (n := 0) (Nat.le_refl _) (src_mono hle hsrc) hpl (by simpa using hb1) (by simpa using hb2)
            have hcut : cutv 0 ((g.fresh s.nx none (.slice none 0 0)).hd s.nx []) = .slice none 0 0 := by simp [Gh.fresh, cutv]
            rw [hcut] at m1
            simp only [List.take_nil, List.nil_append, Nat.zero_add] at m1 m3 m4 m5
            have h2 := rel_step (n' := s.nx + 2) h (hle.trans m5) m3 (fun T hT => by
              obtain ⟨f1, f2⟩ := fresh_on (by omega) hT
              have n1 : T ≠ s.nx := by omega
              rw [m2 T (by omega)]
              simp [Gh.fresh, n1, h.fresh T f1])
            obtain ⟨h3, h4, h5⟩ := putd_rel h2 (vrel_of_crel m4) hx
            refine ⟨_, _, _, m1, h3, by rw [h4]; exact hle.trans m5, fun T hT => ?_⟩
            rw [h5] at hT
            have hT : s.nx ≤ T → s.nx + 2 ≤ T := hT
            have n1 : T ≠ s.nx := by omega
            rw [m2 T (by omega)]
            simp [Gh.fresh, n1]
          · cases hx
        · rename_i T n
          split at hx
          · rename_i e' rows hroot
            split at hx
            · rename_i hb
              obtain ⟨rfl, hb0, hb1, hb2, hroom⟩ := hb
              have hY := fresh_at h hroom (Nat.le_refl _) (by omega)
              obtain ⟨hTlt, _, hv⟩ := hxr
              have hv := hv (by simp [hroot, Ent.isRoot])
              subst hv
              obtain ⟨v', w', g', m1, m2, m3, m4, m5⟩ := append_rel (tr := o.type) (c := cc) hT h.heap hY hu hde c1 c2 hroot hb0 hsrc hpl hb1 hb2
              have h2 := rel_step (n' := s.nx + 1) h m5 m3 (fun X hX => by
                obtain ⟨f1, f2⟩ := fresh_on (Nat.le_succ _) hX
                rw [m2 X (by omega)]
                exact h.fresh X f1)
              obtain ⟨h3, h4, h5⟩ := putd_rel h2 (vrel_of_crel m4) hx
              refine ⟨_, _, _, m1, h3, by rw [h4]; exact m5, fun X hX => ?_⟩
              rw [h5] at hX
              have hX : s.nx ≤ X → s.nx + 1 ≤ X := hX
              exact m2 X (by omega)
            · cases hx
          · cases hx
        · cases hx
      · cases hx
    · cases hx
  · cases hx

theorem does_exec (hT : TyOK P ty) (h : Rel P E g s a w) {o : Oper} {s' : St} (hx : vexec ty s o = some s') : Does P E g s a w o s' := by
  have hval : ∀ {s'}, (vval ty s o).bind (s.putd o.dst) = some s' → Does P E g s a w o s' := by
    intro s' hb
    cases hv : vval ty s o with
    | none => rw [hv] at hb; cases hb
    | some x => rw [hv] at hb; exact does_val hT h (gives_val hT h hv) hb
  unfold vexec at hx
  split at hx
  · rename_i t ho
    split at hx
    · rename_i d hd
      have hz : d.zero ≠ [] := by
        intro h0
        simp [xBox, h0] at hx
      obtain ⟨zv, hzr, hzl, _⟩ := zero_rel (P := P) (E := E) (H := s.H) (g := g) (w := w) hT hd hz
      refine does_box (e := t) h hx hzl ?_
      simp [execOp, ho, Instr.alloc, hzr, newVar, newRow]
    · cases hx
  · rename_i t x ho
    split at hx
    · rename_i vs hvs
      refine does_box (e := t) h hx (cells_rel hvs (ev_rel h x)) ?_
      simp [execOp, ho, Instr.box, newVar, newRow]
    · cases hx
  · rename_i t x y ho
    split at hx
    · rename_i hdst
      exact does_store hT h ho hdst hx
    · cases hx
  · rename_i t parts ho
    cases hv : vBuild ty t (evParts ty s t parts) with
    | none => rw [hv] at hx; cases hx
    | some x => rw [hv] at hx; exact does_val hT h (gives_build hT h ho hv) hx
  · rename_i ho
    exact does_buildSlice hT h ho hx
  · rename_i ho
    exact does_make hT h ho hx
  · rename_i c ho
    split at hx
    · rename_i hcal
      split at hx
      · rename_i x y t t' hargs hts
        split at hx
        · rename_i htt
          subst htt
          exact does_append hT h ho hcal hargs hts hx
        · cases hx
      · cases hx
    · exact hval hx
  · exact hval hx
end
end Go.Proofs.Ytchkbgekmoileaa
