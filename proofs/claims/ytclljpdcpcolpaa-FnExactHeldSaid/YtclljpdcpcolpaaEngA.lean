/- The value-level engine, first part: pure trees, values, state, the relation between a state and a world. No program in sight. -/
import Derived.WalkKit
import Derived.Maps.AppendAt
import Derived.Laws.MakeOwn
import Derived.Laws.Tables
import Derived.Laws.CopyRow
import Derived.Laws.Rows
namespace Go.Proofs.Ytclljpdcpcolpaa
open Go Go.RowKit

/-- A path into a tree: at each step the row and the cell. -/
abbrev Path := List (Nat × Nat)

/-- A pure tree: one cell's content by value. -/
inductive PT where
  | int (k : IntKind) (n : Int)
  | bool (b : Bool)
  | str (s : ByteArray)
  | list (e : TypeId) (rows : List (List PT))
  | ref (T n : Nat)
  | hole

/-- A value of the engine. -/
inductive VV where
  | int (k : IntKind) (n : Int)
  | bool (b : Bool)
  | str (s : ByteArray)
  | nl (e : TypeId)
  | fr (e : TypeId) (rows : List (List PT))
  | rf (T n : Nat)
  | bp (T j : Nat)
  | np (T i j : Nat)
  | bs (T j n : Nat) (e : TypeId)
  | fp (row : List PT)
  | agg (vs : List VV)
  | tup (vs : List VV)
  | err (b : Bool)
  | clo (f : FuncId) (caps : List VV)
  | any

/-- What a token stands for: nothing, a variable in memory, a slice of the call's own with all that it leads to. -/
inductive Ent where
  | dead
  | box (cs : List VV)
  | root (e : TypeId) (rows : List (List PT))

abbrev Heap := Nat → Ent

def updH (t : Nat) (e : Ent) (H : Heap) : Heap := fun x => if x = t then e else H x
def updV (t : Nat) (v : VV) (f : Nat → VV) : Nat → VV := fun x => if x = t then v else f x
theorem updH_same (t : Nat) (e : Ent) (H : Heap) : updH t e H t = e := by simp [updH]
theorem updH_ne {t x : Nat} (e : Ent) (H : Heap) (h : x ≠ t) : updH t e H x = H x := by simp [updH, h]
theorem updV_same (t : Nat) (e : VV) (H : Nat → VV) : updV t e H t = e := by simp [updV]
theorem updV_ne {t x : Nat} (e : VV) (H : Nat → VV) (h : x ≠ t) : updV t e H x = H x := by simp [updV, h]

structure St where
  tm : Nat → VV
  H : Heap
  nx : Nat
  N : Nat
  lim : Option Nat

/-- A token that nobody has seen. -/
def St.fresh (s : St) (T : Nat) : Prop := s.nx ≤ T ∧ (match s.lim with | none => True | some m => T < m)

def St.put (s : St) (d : Nat) (v : VV) : St := { s with tm := updV d v s.tm }

/-- The sub-slice at a path. -/
def At : Path → PT → Option (TypeId × List (List PT))
  | [], .list e rows => some (e, rows)
  | (i, j) :: p, .list _ rows => ((rows[i]?.getD [])[j]?).bind (At p)
  | _, _ => none

/-- What the relation bears besides the state: the header of each slice, the place of each variable, the owner of each block and cell. -/
structure Gh where
  hd : Nat → Path → Value
  bx : Nat → Nat × Nat
  own : Nat → Option (Nat × Path)
  ob : Nat → Nat → Option (Nat × Nat)
  sn : Nat → Bool

def Ent.live : Ent → Bool
  | .dead => false
  | _ => true
def Ent.isRoot : Ent → Bool
  | .root .. => true
  | _ => false

/-- The tokens that were there are what they were, or are gone. -/
structure HLe (g : Gh) (H : Heap) (g' : Gh) (H' : Heap) : Prop where
  sn : ∀ T, g.sn T = true → g'.sn T = true
  root : ∀ T e rows', g.sn T = true → H' T = .root e rows' → ∃ rows, H T = .root e rows
  live : ∀ T, g.sn T = true → (H' T).live = true → (H T).live = true
  hd : ∀ T, g.sn T = true → (H' T).isRoot = true → g'.hd T [] = g.hd T []
  bx : ∀ T, g.sn T = true → (H' T).live = true → g'.bx T = g.bx T

/-- The world in which the call began, and the cells that were handed to it. -/
structure Env where
  w0 : World
  own : Nat → Nat → Prop
  pin : Gh → Heap → Prop
  pinOk : ∀ g H g' H', HLe g H g' H' → pin g H → pin g' H'

/-- What may be read and does not change. -/
def Env.rd (E : Env) (b o : Nat) (u : Value) : Prop := b < E.w0.heap.size ∧ ¬ E.own b o ∧ E.w0.cell? ⟨b, o, none⟩ = some u

def cutv (n : Nat) : Value → Value
  | .slice a _ c => .slice a n c
  | v => v

section
variable (P : Program)

def fcell (c : PT) (h u : Value) : Prop :=
  match c with
  | .int k n => u = .int k n
  | .bool b => u = .bool b
  | .str s => u = .string s
  | .list _ _ => u = h
  | _ => False

/-- A slice that came in: its header and its cells. -/
def RdNode (E : Env) (e : TypeId) (rows : List (List PT)) (ch : Nat → Nat → Value) (v : Value) : Prop :=
  ∃ A cap, v = .slice A rows.length cap ∧ rows.length ≤ cap ∧ cap ≤ maxLen ∧
    (rows = [] ∨ ∃ b o, A = some ⟨b, o, none⟩ ∧ ∀ i r, rows[i]? = some r → r.length = P.cellsOf e ∧
      ∀ j c, r[j]? = some c → ∃ u, E.rd b (o + (i * P.cellsOf e + j)) u ∧ fcell c (ch i j) u)

/-- A value that came in reads as a tree. -/
def Rd (E : Env) (x : PT) (v : Value) : Prop :=
  match x with
  | .int k n => v = .int k n
  | .bool b => v = .bool b
  | .str s => v = .string s
  | .list e rows => ∃ fh : Path → Value, fh [] = v ∧ ∀ p e' rows', At p (.list e rows) = some (e', rows') → RdNode P E e' rows' (fun i j => fh (p ++ [(i, j)])) (fh p)
  | _ => False

/-- What a function value has caught: a pointer. -/
def CapRel (E : Env) (H : Heap) (g : Gh) (x : VV) (v : Value) : Prop :=
  match x with
  | .bp T j => g.sn T = true ∧ v.oneCell' = true ∧ ((H T).live = true → v = .pointer (some ⟨(g.bx T).1, (g.bx T).2 + j, none⟩))
  | .fp row => ∃ b o, v = .pointer (some ⟨b, o, none⟩) ∧ ∀ j c, row[j]? = some c → ∃ u, E.rd b (o + j) u ∧ Rd P E c u
  | _ => False

/-- One cell's value. -/
def CRel (E : Env) (H : Heap) (g : Gh) (x : VV) (v : Value) : Prop :=
  match x with
  | .int k n => v = .int k n
  | .bool b => v = .bool b
  | .str s => v = .string s
  | .nl _ => v = .slice none 0 0
  | .fr e rows => Rd P E (.list e rows) v
  | .rf T n => g.sn T = true ∧ v.oneCell' = true ∧ ((H T).isRoot = true → v = cutv n (g.hd T []))
  | .bp T j => g.sn T = true ∧ v.oneCell' = true ∧ ((H T).live = true → v = .pointer (some ⟨(g.bx T).1, (g.bx T).2 + j, none⟩))
  | .np T i j => g.sn T = true ∧ v.oneCell' = true ∧ ∀ e rows, H T = .root e rows → ∃ b n c, g.hd T [] = .slice (some ⟨b, 0, none⟩) n c ∧ v = .pointer (some ⟨b, i * P.cellsOf e + j, none⟩)
  | .bs T j n e => g.sn T = true ∧ v.oneCell' = true ∧ (P.cellsOf e = 1 ∧ n ≤ maxLen) ∧ ((H T).live = true → v = .slice (some ⟨(g.bx T).1, (g.bx T).2 + j, none⟩) n n)
  | .fp row => ∃ b o, v = .pointer (some ⟨b, o, none⟩) ∧ ∀ j c, row[j]? = some c → ∃ u, E.rd b (o + j) u ∧ Rd P E c u
  | .err b => if b then ∃ t x, v = .iface t x else v = .nilIface
  | .clo f caps => ∃ cs : List Value, v = .func (.func f) #[] cs.toArray ∧ cs.length = caps.length ∧ ∀ (j : Nat) (c : VV) (u : Value), caps[j]? = some c → cs[j]? = some u → CapRel P E H g c u
  | .any => True
  | _ => False

/-- One cell, or the cells of a struct or an array. -/
def ARel (E : Env) (H : Heap) (g : Gh) (x : VV) (v : Value) : Prop :=
  match x with
  | .agg vs => ∃ cs : List Value, v = .agg cs.toArray ∧ cs.length = vs.length ∧ ∀ (j : Nat) (c : VV) (u : Value), vs[j]? = some c → cs[j]? = some u → CRel P E H g c u
  | x => CRel P E H g x v

def VRel (E : Env) (H : Heap) (g : Gh) (x : VV) (v : Value) : Prop :=
  match x with
  | .tup vs => ∃ cs : List Value, v = .tuple cs.toArray ∧ cs.length = vs.length ∧ ∀ (j : Nat) (c : VV) (u : Value), vs[j]? = some c → cs[j]? = some u → ARel P E H g c u
  | x => ARel P E H g x v

/-- A cell of a slice of the call's own. -/
def ocell (H : Heap) (g : Gh) (c : PT) (h u : Value) : Prop :=
  match c with
  | .int k n => u = .int k n
  | .bool b => u = .bool b
  | .str s => u = .string s
  | .list _ _ => u = h
  | .ref T n => g.sn T = true ∧ u.oneCell' = true ∧ ((H T).isRoot = true → u = cutv n (g.hd T []))
  | .hole => True

def NodeOK (E : Env) (H : Heap) (g : Gh) (w : World) (T : Nat) (p : Path) (e : TypeId) (rows : List (List PT)) : Prop :=
  (g.hd T p = .slice none 0 0 ∧ rows = []) ∨
  ∃ b cap cur, g.hd T p = .slice (some ⟨b, 0, none⟩) rows.length cap ∧ g.own b = some (T, p) ∧ (E.w0.heap.size ≤ b ∨ ∀ o, E.own b o) ∧
    w.heap[b]? = some (.cells cur e (0, 0)) ∧ rows.length ≤ cap ∧ cap ≤ maxLen ∧ cur.size = cap * P.cellsOf e ∧
    ∀ i r, rows[i]? = some r → r.length = P.cellsOf e ∧ ∀ j c, r[j]? = some c → ∃ u, cur[i * P.cellsOf e + j]? = some u ∧ ocell H g c (g.hd T (p ++ [(i, j)])) u

def BoxOK (E : Env) (H : Heap) (g : Gh) (w : World) (T : Nat) (cs : List VV) : Prop :=
  ∃ cur e, w.heap[(g.bx T).1]? = some (.cells cur e (0, 0)) ∧ g.own (g.bx T).1 = none ∧
    ∀ j c, cs[j]? = some c → g.ob (g.bx T).1 ((g.bx T).2 + j) = some (T, j) ∧ (E.w0.heap.size ≤ (g.bx T).1 ∨ E.own (g.bx T).1 ((g.bx T).2 + j)) ∧
      ∃ u, cur[(g.bx T).2 + j]? = some u ∧ CRel P E H g c u

/-- What has not turned since the call began. -/
structure Frm (E : Env) (w : World) : Prop where
  os : w.os = E.w0.os
  tape : w.tape = E.w0.tape
  output : w.output = E.w0.output
  size : E.w0.heap.size ≤ w.heap.size
  cells : ∀ (b : Nat) (c : Array Value) (e : TypeId) (fz : Nat × Nat), E.w0.heap[b]? = some (Obj.cells c e fz) → ∃ c' : Array Value, w.heap[b]? = some (Obj.cells c' e fz) ∧ c'.size = c.size ∧ ∀ o : Nat, ¬ E.own b o → c'[o]? = c[o]?
  other : ∀ (b : Nat) (x : Obj), E.w0.heap[b]? = some x → (∀ c e fz, x ≠ Obj.cells c e fz) → w.heap[b]? = some x

structure HRel (E : Env) (g : Gh) (H : Heap) (w : World) : Prop where
  frm : Frm E w
  node : ∀ T e rows, H T = .root e rows → ∀ p e' rows', At p (.list e rows) = some (e', rows') → NodeOK P E H g w T p e' rows'
  box : ∀ T cs, H T = .box cs → BoxOK P E H g w T cs
  seen : ∀ T, (H T).live = true → g.sn T = true

structure Rel (E : Env) (g : Gh) (s : St) (a : Act) (w : World) : Prop where
  size : a.tmps.size = s.N
  defers : a.defers = []
  heap : HRel P E g s.H w
  fresh : ∀ T, s.fresh T → g.sn T = false
  tmps : ∀ t, VRel P E s.H g (s.tm t) (a.tmps.getD t undef)
  pin : E.pin g s.H

end
end Go.Proofs.Ytclljpdcpcolpaa
