/- The value-level engine, second part: the operations that only compute, and that the machine does the same. -/
import Derived.Test.YtclljpdcpcolpaaEngA
namespace Go.Proofs.Ytclljpdcpcolpaa
open Go Go.RowKit

inductive TyD where
  | sc
  | bo
  | sl (e : TypeId)
  | st (fs : List (Nat × TypeId))
  | ar (n : Nat) (e : TypeId)
  | it (k : IntKind)
  | ss

structure TyE where
  d : TyD
  size : Nat
  bytes : Nat
  zero : List VV

abbrev Ty := TypeId → Option TyE

def TyD.isAgg : TyD → Bool
  | .st _ | .ar .. => true
  | _ => false

def VV.const? : VV → Option Value
  | .int k n => some (.int k n)
  | .bool b => some (.bool b)
  | .str s => some (.string s)
  | .nl _ => some (.slice none 0 0)
  | _ => none

def tyD (P : Program) (t : TypeId) : TyD → Prop
  | .sl e => P.underlying t = some (.slice e)
  | .st fs => ∃ F, P.underlying t = some (.struct F) ∧ F.toList.map (fun f => (f.offset, f.type)) = fs
  | .ar n e => P.underlying t = some (.array n e)
  | .bo => P.underlying t = some .bool
  | .it k => P.underlying t = some (.int k)
  | .ss => P.underlying t = some .string
  | .sc => ∃ d, P.underlying t = some d ∧ (match d with | .struct _ | .array _ _ => False | _ => True)

structure TyOK1 (P : Program) (t : TypeId) (d : TyE) : Prop where
  desc : tyD P t d.d
  info : ∃ i, P.info? t = some i ∧ i.size = d.size ∧ i.bytes = d.bytes ∧ (d.zero = [] ∨ ∃ zv, i.zero = some zv ∧ zv.cells.toList.map some = d.zero.map VV.const?)

def TyOK (P : Program) (ty : Ty) : Prop := ∀ t d, ty t = some d → TyOK1 P t d

theorem TyOK1.cells {P : Program} {t : TypeId} {d : TyE} (h : TyOK1 P t d) : P.cellsOf t = d.size := by
  obtain ⟨i, hi, hs, _⟩ := h.info
  simp [Program.cellsOf, hi, hs]
theorem TyOK1.run_size {P : Program} {t : TypeId} {d : TyE} (h : TyOK1 P t d) (w : World) : (sizeOf t).run P w = .ok d.size w := by
  obtain ⟨i, hi, hs, _⟩ := h.info
  simp [sizeOf, typeInfo, hi, hs]
theorem TyOK1.run_agg {P : Program} {t : TypeId} {d : TyE} (h : TyOK1 P t d) (w : World) : (isAgg t).run P w = .ok d.d.isAgg w := by
  have hd := h.desc
  unfold isAgg
  cases hk : d.d with
  | sl e => rw [hk] at hd; simp [run_underlying hd, TyD.isAgg]
  | ar n e => rw [hk] at hd; simp [run_underlying hd, TyD.isAgg]
  | bo => rw [hk] at hd; simp [run_underlying hd, TyD.isAgg]
  | it k => rw [hk] at hd; simp [run_underlying hd, TyD.isAgg]
  | ss => rw [hk] at hd; simp [run_underlying hd, TyD.isAgg]
  | st fs => rw [hk] at hd; obtain ⟨F, hF, _⟩ := hd; simp [run_underlying hF, TyD.isAgg]
  | sc =>
    rw [hk] at hd
    obtain ⟨dd, hF, hn⟩ := hd
    cases dd <;> simp_all [run_underlying hF, TyD.isAgg]

def ofConst : Value → VV
  | .int k n => .int k n
  | .bool b => .bool b
  | .string s => .str s
  | .slice none 0 0 => .nl 0
  | .nilIface => .err false
  | _ => .any

def ev (s : St) : Operand → VV
  | .tmp t => s.tm t
  | .const v => ofConst v
  | .func f => .clo f []
  | _ => .any

def PT.vv : PT → VV
  | .int k n => .int k n
  | .bool b => .bool b
  | .str s => .str s
  | .list e rows => .fr e rows
  | .ref T n => .rf T n
  | .hole => .any

section
variable {P : Program} {E : Env} {g : Gh} {s : St} {a : Act} {w : World} {ty : Ty}

theorem vrel_any {H : Heap} {v : Value} : VRel P E H g .any v := trivial
theorem ofConst_rel {H : Heap} (v : Value) : VRel P E H g (ofConst v) v := by
  unfold ofConst
  split <;> first | rfl | trivial

theorem ev_rel (h : Rel P E g s a w) (x : Operand) : VRel P E s.H g (ev s x) (a.eval x) := by
  cases x with
  | tmp t => exact h.tmps t
  | const v => exact ofConst_rel v
  | global n => trivial
  | func f => exact ⟨[], rfl, rfl, fun j c u hc => by simp at hc⟩

theorem rd_vv {H : Heap} {c : PT} {u : Value} (h : Rd P E c u) : CRel P E H g c.vv u := by
  cases c <;> first | exact h | exact h.elim

/-- A frozen cell by its header and the ghost. -/
theorem put_rel (h : Rel P E g s a w) {d : Nat} {x : VV} {v : Value} (hd : d < s.N) (hx : VRel P E s.H g x v) : Rel P E g (s.put d x) (a.put (some d) v) w := by
  refine ⟨?_, h.defers, h.heap, h.fresh, fun t => ?_, h.pin⟩
  · simp [Act.put, St.put, h.size]
  · simp only [St.put, Act.put, updV]
    by_cases e : t = d
    · subst e
      have hl : t < a.tmps.size := by rw [h.size]; exact hd
      simpa [hl] using hx
    · simp only [e, if_false]
      have := h.tmps t
      rw [Array.getD_eq_getD_getElem?] at this ⊢
      rwa [Array.getElem?_setIfInBounds_ne (Ne.symm e)]

/-- The operation gives this value and leaves the world alone. -/
def Gives (P : Program) (E : Env) (g : Gh) (s : St) (a : Act) (w : World) (o : Oper) (x : VV) : Prop :=
  ∃ v, (execOp a.eval o).run P w = .ok (.value v) w ∧ VRel P E s.H g x v
end

def isBo (ty : Ty) (t : TypeId) : Bool :=
  match ty t with
  | some ⟨.bo, _, _, _⟩ => true
  | _ => false

theorem isBo_spec {P : Program} {ty : Ty} (hT : TyOK P ty) {t : TypeId} (h : isBo ty t = true) : P.underlying t = some .bool := by
  unfold isBo at h
  split at h
  · rename_i ht
    exact (hT t _ ht).desc
  · cases h

/-! ### Arithmetic -/
def vArith (op : BinOp) (k : IntKind) (a b : Int) : Option VV :=
  match op with
  | .add => some (.int k (k.wrap (a + b)))
  | .sub => some (.int k (k.wrap (a - b)))
  | .mul => some (.int k (k.wrap (a * b)))
  | .quo => if b = 0 then none else some (.int k (k.wrap (a.tdiv b)))
  | .rem => if b = 0 then none else some (.int k (a.tmod b))
  | .and => some (.int k (k.wrap ((BitVec.ofInt k.bits a &&& BitVec.ofInt k.bits b).toNat)))
  | .or => some (.int k (k.wrap ((BitVec.ofInt k.bits a ||| BitVec.ofInt k.bits b).toNat)))
  | .xor => some (.int k (k.wrap ((BitVec.ofInt k.bits a ^^^ BitVec.ofInt k.bits b).toNat)))
  | .eql => some (.bool (a == b))
  | .neq => some (.bool (a != b))
  | .lss => some (.bool (decide (a < b)))
  | .leq => some (.bool (decide (a ≤ b)))
  | .gtr => some (.bool (decide (b < a)))
  | .geq => some (.bool (decide (b ≤ a)))
  | _ => none

def vShift (op : BinOp) (k : IntKind) (a b : Int) : Option VV :=
  if b < 0 then none else
  match op with
  | .shl => some (.int k (k.wrap (a * 2 ^ (min b.toNat k.bits))))
  | .shr => some (.int k (a.fdiv (2 ^ (min b.toNat k.bits))))
  | _ => none

def vStr (op : BinOp) (a b : ByteArray) : Option VV :=
  match op with
  | .add => if a.size + b.size ≤ 9223372036854775807 then some (.str (a ++ b)) else none
  | .eql => some (.bool (a.toList == b.toList))
  | .neq => some (.bool (!(a.toList == b.toList)))
  | _ => none

def isShift : BinOp → Bool
  | .shl | .shr => true
  | _ => false

def isConstOp : Operand → Bool
  | .const _ => true
  | _ => false

def vBin (op : BinOp) (bo : Bool) (x y : VV) : Option VV :=
  match x, y with
  | .int k a, .int k' b => if isShift op then vShift op k a b else if k = k' then vArith op k a b else none
  | .str a, .str b => vStr op a b
  | .bool a, .bool b => if bo then (match op with | .eql => some (.bool (a == b)) | .neq => some (.bool (!(a == b))) | _ => none) else none
  | _, _ => none

theorem run_arith {P : Program} {w : World} {op : BinOp} {k : IntKind} {a b : Int} {x : VV} (t : TypeId) (h : vArith op k a b = some x) :
    ∃ v, (binOp op t (.int k a) (.int k b)).run P w = .ok v w ∧ x.const? = some v := by
  cases op <;> simp only [vArith] at h <;> (try split at h) <;> first
    | (injection h with h; subst h; refine ⟨_, ?_, rfl⟩; simp_all [binOp, Op.intArith, Op.intDiv, Op.intBits, Op.intCmp]; done)
    | cases h

theorem run_shift {P : Program} {w : World} {op : BinOp} {k k' : IntKind} {a b : Int} {x : VV} (t : TypeId) (h : vShift op k a b = some x) :
    ∃ v, (binOp op t (.int k a) (.int k' b)).run P w = .ok v w ∧ x.const? = some v := by
  by_cases hb : b < 0
  · simp [vShift, hb] at h
  · cases op <;> simp only [vShift, if_neg hb] at h <;> first
      | (have h' := Option.some.inj h; rw [← h']; refine ⟨_, ?_, rfl⟩; simp [binOp, Op.shift, hb]; done)
      | cases h

theorem run_str {P : Program} {w : World} {op : BinOp} {a b : ByteArray} {x : VV} (t : TypeId) (h : vStr op a b = some x) :
    ∃ v, (binOp op t (.string a) (.string b)).run P w = .ok v w ∧ x.const? = some v := by
  by_cases ha : op = .add
  · subst ha
    simp only [vStr] at h
    by_cases hs : a.size + b.size ≤ 9223372036854775807
    · rw [if_pos hs] at h
      have h' := Option.some.inj h
      rw [← h']
      have hn : ¬ ((a.size + b.size : Nat) : Int) > IntKind.i64.max := by simp [IntKind.max, IntKind.signed, IntKind.bits]; omega
      refine ⟨.string (a ++ b), ?_, rfl⟩
      simp only [binOp, Op.stringOp]
      rw [if_neg hn]
      rfl
    · rw [if_neg hs] at h; cases h
  · cases op <;> simp only [vStr] at h <;> first
      | exact absurd rfl ha
      | (have h' := Option.some.inj h; rw [← h']; refine ⟨_, ?_, rfl⟩; simp [binOp, Op.stringOp]; done)
      | cases h

theorem run_eqGuard_plain {P : Program} {w : World} (op : BinOp) (t : TypeId) (x y : Operand) {v u : Value} (hv : ∀ cs, v ≠ .agg cs) (hn : v ≠ .nilIface) :
    (eqGuard op t x y v u).run P w = .ok () w := by
  unfold eqGuard
  cases op <;> cases v <;> first
    | exact absurd rfl hn
    | exact absurd rfl (hv _)
    | (simp; done)
    | rfl

theorem const_rel {P : Program} {E : Env} {H : Heap} {g : Gh} {x : VV} {v : Value} (h : x.const? = some v) : VRel P E H g x v := by
  cases x <;> simp [VV.const?] at h <;> (subst h; rfl)

section
variable {P : Program} {E : Env} {g : Gh} {s : St} {a : Act} {w : World} {ty : Ty}

theorem gives_bin (hT : TyOK P ty) (h : Rel P E g s a w) {o : Oper} {op : BinOp} {t t' : TypeId} {x y : Operand} {r : VV} (ho : o.op = .binOp op t x y t')
    (hb : vBin op (isBo ty t) (ev s x) (ev s y) = some r) : Gives P E g s a w o r := by
  have hx := ev_rel h x
  have hy := ev_rel h y
  unfold Gives
  simp only [execOp, ho]
  generalize a.eval x = X at *
  generalize a.eval y = Y at *
  generalize ev s x = vx at *
  generalize ev s y = vy at *
  unfold vBin at hb
  split at hb
  · rename_i k n k' m
    obtain rfl : X = .int k n := hx
    obtain rfl : Y = .int k' m := hy
    have hg := run_eqGuard_plain (P := P) (w := w) op t x y (v := .int k n) (u := .int k' m) (by intro cs; simp) (by simp)
    have key : ∃ v, (binOp op t (.int k n) (.int k' m)).run P w = .ok v w ∧ r.const? = some v := by
      split at hb
      · exact run_shift t hb
      · split at hb
        · rename_i e; subst e; exact run_arith t hb
        · cases hb
    obtain ⟨v, hr, hc⟩ := key
    exact ⟨v, by simp [hg, hr], const_rel hc⟩
  · rename_i n m
    obtain rfl : X = .string n := hx
    obtain rfl : Y = .string m := hy
    have hg := run_eqGuard_plain (P := P) (w := w) op t x y (v := .string n) (u := .string m) (by intro cs; simp) (by simp)
    obtain ⟨v, hr, hc⟩ := run_str (P := P) (w := w) t hb
    exact ⟨v, by simp [hg, hr], const_rel hc⟩
  · rename_i n m
    obtain rfl : X = .bool n := hx
    obtain rfl : Y = .bool m := hy
    have hg := run_eqGuard_plain (P := P) (w := w) op t x y (v := .bool n) (u := .bool m) (by intro cs; simp) (by simp)
    split at hb
    · rename_i hbo
      have hu : P.underlying t = some .bool := isBo_spec hT hbo
      have he : ∀ d, (Op.equalIn (d + 1) t (.bool n) (.bool m)).run P w = .ok (n == m) w := fun d => by simp [Op.equalIn, run_underlying hu]
      cases op <;> simp only [] at hb <;> first
        | (have h' := Option.some.inj hb; rw [← h']; exact ⟨_, by simp [hg, binOp, Op.equal, Op.maxDepth, he 9999], rfl⟩)
        | cases hb
    · cases hb
  · cases hb
end
end Go.Proofs.Ytclljpdcpcolpaa
