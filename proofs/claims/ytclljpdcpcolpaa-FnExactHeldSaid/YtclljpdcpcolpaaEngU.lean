/- The value-level engine, twenty-first part: how a proof walks: one equation for each kind of operation, one rule for each form of control. -/
import Derived.Test.YtclljpdcpcolpaaEngT
import Derived.Laws.BitsLemmas
namespace Go.Proofs.Ytclljpdcpcolpaa
open Go Go.RowKit
set_option linter.unusedVariables false
set_option linter.unusedSimpArgs false

/-! ### The table of types, by computation -/
def eqConst : Value → VV → Bool
  | .int k n, .int k' n' => k == k' && n == n'
  | .bool b, .bool b' => b == b'
  | .string s, .str s' => s.size == 0 && s'.size == 0
  | .slice none 0 0, .nl _ => true
  | _, _ => false
def eqConsts : List Value → List VV → Bool
  | [], [] => true
  | v :: vs, x :: xs => eqConst v x && eqConsts vs xs
  | _, _ => false
def chkD (P : Program) (t : TypeId) : TyD → Bool
  | .sl e => match P.underlying t with | some (.slice e') => e' == e | _ => false
  | .st fs => match P.underlying t with | some (.struct F) => F.toList.map (fun f => (f.offset, f.type)) == fs | _ => false
  | .ar n e => match P.underlying t with | some (.array n' e') => n' == n && e' == e | _ => false
  | .bo => match P.underlying t with | some .bool => true | _ => false
  | .it k => match P.underlying t with | some (.int k') => k' == k | _ => false
  | .ss => match P.underlying t with | some .string => true | _ => false
  | .sc => match P.underlying t with | some (.struct _) => false | some (.array _ _) => false | some _ => true | none => false
def chkZ (z : Option Value) (l : List VV) : Bool :=
  match l with
  | [] => true
  | l => match z with | some v => eqConsts v.cells.toList l | none => false
def chkT (P : Program) (t : TypeId) (d : TyE) : Bool :=
  chkD P t d.d && (match P.info? t with | some i => i.size == d.size && i.bytes == d.bytes && chkZ i.zero d.zero | none => false)

theorem eqConst_spec {v : Value} {x : VV} (h : eqConst v x = true) : some v = x.const? := by
  unfold eqConst at h
  split at h
  · simp only [Bool.and_eq_true, beq_iff_eq] at h
    obtain ⟨rfl, rfl⟩ := h
    rfl
  · simp only [beq_iff_eq] at h
    subst h
    rfl
  · rename_i s s'
    simp only [Bool.and_eq_true, beq_iff_eq] at h
    have : s = s' := by
      cases s with
      | mk a => cases s' with
        | mk b =>
          have h1 : a.size = 0 := h.1
          have h2 : b.size = 0 := h.2
          rw [Array.eq_empty_of_size_eq_zero h1, Array.eq_empty_of_size_eq_zero h2]
    subst this
    rfl
  · rfl
  · cases h
theorem eqConsts_spec : ∀ {vs : List Value} {xs : List VV}, eqConsts vs xs = true → vs.map some = xs.map VV.const?
  | [], [], _ => rfl
  | [], _ :: _, h => by cases h
  | _ :: _, [], h => by cases h
  | v :: vs, x :: xs, h => by
    simp only [eqConsts, Bool.and_eq_true] at h
    simp only [List.map_cons, eqConst_spec h.1, eqConsts_spec h.2]

theorem chkT_spec {P : Program} {t : TypeId} {d : TyE} (h : chkT P t d = true) : TyOK1 P t d := by
  simp only [chkT, Bool.and_eq_true] at h
  obtain ⟨h1, h2⟩ := h
  refine ⟨?_, ?_⟩
  · generalize d.d = dd at h1
    unfold chkD at h1
    unfold tyD
    split at h1
    · split at h1
      · rename_i hu; rw [hu]; simp only [beq_iff_eq] at h1; simp [h1]
      · cases h1
    · split at h1
      · rename_i F hu; simp only [beq_iff_eq] at h1; exact ⟨F, hu, h1⟩
      · cases h1
    · split at h1
      · rename_i hu; rw [hu]; simp only [Bool.and_eq_true, beq_iff_eq] at h1; simp [h1]
      · cases h1
    · split at h1
      · rename_i hu; exact hu
      · cases h1
    · split at h1
      · rename_i hu; rw [hu]; simp only [beq_iff_eq] at h1; simp [h1]
      · cases h1
    · split at h1
      · rename_i hu; exact hu
      · cases h1
    · split at h1
      · cases h1
      · cases h1
      · rename_i x hs ha hu
        refine ⟨x, hu, ?_⟩
        cases x <;> first | exact (hs _ rfl).elim | exact (ha _ _ rfl).elim | trivial
      · cases h1
  · split at h2
    · rename_i i hi
      simp only [Bool.and_eq_true, beq_iff_eq] at h2
      obtain ⟨⟨h3, h4⟩, h5⟩ := h2
      refine ⟨i, hi, h3, h4, ?_⟩
      unfold chkZ at h5
      split at h5
      · rename_i hz; exact .inl hz
      · split at h5
        · rename_i v hv
          exact .inr ⟨v, hv, eqConsts_spec h5⟩
        · cases h5
    · cases h2

/-! ### Lookups -/
theorem ev_tmp (tm : Nat → VV) (H : Heap) (nx N : Nat) (lim : Option Nat) (t : Nat) : ev ⟨tm, H, nx, N, lim⟩ (.tmp t) = tm t := rfl
theorem ev_const (tm : Nat → VV) (H : Heap) (nx N : Nat) (lim : Option Nat) (v : Value) : ev ⟨tm, H, nx, N, lim⟩ (.const v) = ofConst v := rfl
theorem ev_func (tm : Nat → VV) (H : Heap) (nx N : Nat) (lim : Option Nat) (f : FuncId) : ev ⟨tm, H, nx, N, lim⟩ (.func f) = .clo f [] := rfl
theorem updV_at (t : Nat) (v : VV) (f : Nat → VV) (x : Nat) : updV t v f x = (match Nat.beq x t with | true => v | false => f x) := by
  unfold updV
  by_cases h : x = t
  · subst h; simp
  · have : Nat.beq x t = false := by
      cases hb : Nat.beq x t with
      | false => rfl
      | true => exact absurd (Nat.eq_of_beq_eq_true hb) h
    rw [if_neg h, this]
theorem updH_at (t : Nat) (v : Ent) (f : Heap) (x : Nat) : updH t v f x = if x = t then v else f x := rfl

/-- What a proof knows of a state. -/
def tmL : List (Nat × VV) → Nat → VV
  | [], _ => .any
  | (t, v) :: l, x => if x = t then v else tmL l x
def hpL : List (Nat × Ent) → Heap
  | [], _ => .dead
  | (t, v) :: l, x => if x = t then v else hpL l x

section
variable {P : Program} {E : Env} {ty : Ty} {ops : Array Oper} {rest : List Oper} {K : St → Prop} {tm : Nat → VV} {H : Heap} {nx N : Nat} {lim : Option Nat} {d t : Nat} {p : String} {af : Array Edge} {x y : Operand} {s : St}

theorem vops_nil : vops P ty ops [] s K = K s := rfl

/-- A value, put where it belongs. -/
def Puts (P : Program) (ty : Ty) (ops : Array Oper) (rest : List Oper) (K : St → Prop) (s : St) (d : Nat) (r : Option VV) : Prop :=
  match r with
  | some v => d < s.N ∧ vops P ty ops rest (s.put d v) K
  | none => False

theorem vops_val {op : Op} (hf : fcall s ⟨some d, op, t, p, af, none⟩ = none) (hv : vexec ty s ⟨some d, op, t, p, af, none⟩ = (vval ty s ⟨some d, op, t, p, af, none⟩).bind (s.putd (some d))) :
    vops P ty ops (⟨some d, op, t, p, af, none⟩ :: rest) s K = Puts P ty ops rest K s d (vval ty s ⟨some d, op, t, p, af, none⟩) := by
  simp only [vops, vop, vwant, hf, hv]
  cases vval ty s ⟨some d, op, t, p, af, none⟩ with
  | none => simp [Puts]
  | some v =>
    simp only [Option.bind_some, St.putd, Puts]
    by_cases h : d < s.N <;> simp [h]

theorem puts_some (v : VV) : Puts P ty ops rest K ⟨tm, H, nx, N, lim⟩ d (some v) = (d < N ∧ vops P ty ops rest ⟨updV d v tm, H, nx, N, lim⟩ K) := rfl
theorem puts_none : Puts P ty ops rest K s d none = False := rfl

theorem vops_move : vops P ty ops (⟨some d, .move x, t, p, af, none⟩ :: rest) s K = Puts P ty ops rest K s d (some (retype ty t (ev s x))) := vops_val rfl rfl
theorem vops_assign : vops P ty ops (⟨some d, .assign x, t, p, af, none⟩ :: rest) s K = Puts P ty ops rest K s d (some (retype ty t (ev s x))) := vops_val rfl rfl
def vpick3 (c x y : VV) : Option VV := match c with
  | .bool b => some (vPick b x y)
  | _ => none
theorem vops_pick {c : Operand} : vops P ty ops (⟨some d, .pick c x y, t, p, af, none⟩ :: rest) s K = Puts P ty ops rest K s d (vpick3 (ev s c) (ev s x) (ev s y)) := by rw [vops_val rfl rfl]; rfl
theorem vops_binOp {op : BinOp} {t1 t2 : Nat} : vops P ty ops (⟨some d, .binOp op t1 x y t2, t, p, af, none⟩ :: rest) s K = Puts P ty ops rest K s d (vBin op (isBo ty t1) (ev s x) (ev s y)) := vops_val rfl rfl
theorem vops_unOp {op : UnOp} {t1 : Nat} : vops P ty ops (⟨some d, .unOp op t1 x, t, p, af, none⟩ :: rest) s K = Puts P ty ops rest K s d (vUn op (ev s x)) := vops_val rfl rfl
def vConv (a b : Option IntKind) (x : VV) : Option VV := match a, b, x with
  | some _, some k, .int _ n => some (.int k (k.wrap n))
  | _, _, _ => none
theorem vops_convert {t1 t2 : Nat} : vops P ty ops (⟨some d, .convert t1 t2 x, t, p, af, none⟩ :: rest) s K = Puts P ty ops rest K s d (vConv (intOfT ty t1) (intOfT ty t2) (ev s x)) := by rw [vops_val rfl rfl]; rfl
theorem vops_load {t1 : Nat} : vops P ty ops (⟨some d, .load t1 x, t, p, af, none⟩ :: rest) s K = Puts P ty ops rest K s d (vLoad ty s t1 (ev s x)) := vops_val rfl rfl
theorem vops_fieldAddr {t1 f : Nat} : vops P ty ops (⟨some d, .fieldAddr t1 x f, t, p, af, none⟩ :: rest) s K = Puts P ty ops rest K s d (vFieldAddr ty s t1 (ev s x) f) := vops_val rfl rfl
theorem vops_field {t1 f : Nat} : vops P ty ops (⟨some d, .field t1 x f, t, p, af, none⟩ :: rest) s K = Puts P ty ops rest K s d (vField ty t1 (ev s x) f) := vops_val rfl rfl
theorem vops_indexAddr {t1 : Nat} : vops P ty ops (⟨some d, .indexAddr t1 x y, t, p, af, none⟩ :: rest) s K = Puts P ty ops rest K s d (vIndexAddr ty s t1 (ev s x) (ev s y)) := vops_val rfl rfl
theorem vops_index {t1 : Nat} : vops P ty ops (⟨some d, .index t1 x y, t, p, af, none⟩ :: rest) s K = Puts P ty ops rest K s d (vIndex ty t1 (ev s x) (ev s y)) := vops_val rfl rfl
theorem vops_extract {i : Nat} : vops P ty ops (⟨some d, .extract x i, t, p, af, none⟩ :: rest) s K = Puts P ty ops rest K s d (vExtract (ev s x) i) := vops_val rfl rfl
theorem vops_slice {t1 : Nat} {l h : Option Operand} : vops P ty ops (⟨some d, .slice t1 x l h none, t, p, af, none⟩ :: rest) s K = Puts P ty ops rest K s d (vSlice ty s t1 (ev s x) (l.map (ev s)) (h.map (ev s))) := vops_val rfl rfl
theorem vops_len {b : Builtin} (hb : b ≠ .append) {xs : Array Operand} {ts : Array TypeId} : vops P ty ops (⟨some d, .call ⟨.builtin b, xs, ts⟩, t, p, af, none⟩ :: rest) s K = Puts P ty ops rest K s d (vBuiltin ty s b (xs.toList.map (ev s)) ts.toList) :=
  vops_val rfl (by cases b <;> first | rfl | exact absurd rfl hb)

/-- An operation that does more than give a value. -/
def Runs (P : Program) (ty : Ty) (ops : Array Oper) (rest : List Oper) (K : St → Prop) (r : Option St) : Prop :=
  match r with
  | some s => vops P ty ops rest s K
  | none => False
theorem runs_some : Runs P ty ops rest K (some s) = vops P ty ops rest s K := rfl
theorem runs_none : Runs P ty ops rest K none = False := rfl
theorem vops_run {o : Oper} (hg : o.guard = none) (hf : fcall s o = none) : vops P ty ops (o :: rest) s K = Runs P ty ops rest K (vexec ty s o) := by
  simp only [vops, vop, vwant, hg, hf]
  cases vexec ty s o <;> simp [Runs]
def vAlloc (s : St) (t : Option TyE) (d : Option Nat) : Option St := match t with
  | some e => xBox s e.zero d
  | none => none
theorem vops_alloc {t1 : Nat} {dd : Option Nat} : vops P ty ops (⟨dd, .alloc t1, t, p, af, none⟩ :: rest) s K = Runs P ty ops rest K (vAlloc s (ty t1) dd) := by rw [vops_run rfl rfl]; rfl
def vBoxd (s : St) (c : Option (List VV)) (d : Option Nat) : Option St := match c with
  | some vs => xBox s vs d
  | none => none
theorem vops_box {t1 : Nat} {dd : Option Nat} : vops P ty ops (⟨dd, .box t1 x, t, p, af, none⟩ :: rest) s K = Runs P ty ops rest K (vBoxd s (ev s x).cells dd) := by rw [vops_run rfl rfl]; rfl
theorem vops_store {t1 : Nat} : vops P ty ops (⟨none, .store t1 x y, t, p, af, none⟩ :: rest) s K = Runs P ty ops rest K (xStore ty s t1 (ev s x) (retype ty t1 (ev s y))) := by rw [vops_run rfl rfl]; rfl
theorem vops_build {t1 : Nat} {ps : Array (Nat × Operand)} {dd : Option Nat} : vops P ty ops (⟨dd, .build t1 ps, t, p, af, none⟩ :: rest) s K = Runs P ty ops rest K ((vBuild ty t1 (evParts ty s t1 ps)).bind (s.putd dd)) := by rw [vops_run rfl rfl]; rfl
theorem vops_buildSlice {t1 n : Nat} {ps : Array (Nat × Operand)} {dd : Option Nat} : vops P ty ops (⟨dd, .buildSlice t1 n ps, t, p, af, none⟩ :: rest) s K = Runs P ty ops rest K (xBuildSlice ty s t1 n (evParts ty s t1 ps) dd) := by rw [vops_run rfl rfl]; rfl
theorem vops_makeSlice {t1 : Nat} {dd : Option Nat} : vops P ty ops (⟨dd, .makeSlice t1 x y, t, p, af, none⟩ :: rest) s K = Runs P ty ops rest K (xMake ty s t1 (ev s x) (ev s y) dd) := by rw [vops_run rfl rfl]; rfl
theorem vops_append {t1 : Nat} {dd : Option Nat} : vops P ty ops (⟨dd, .call ⟨.builtin .append, #[x, y], #[t1, t1]⟩, t, p, af, none⟩ :: rest) s K = Runs P ty ops rest K (xAppend ty s t1 (retype ty t1 (ev s x)) (ev s y) dd) := by
  rw [vops_run rfl rfl]
  simp [vexec]

/-- A call. -/
def CallK (P : Program) (f : FuncId) (args : List VV) (s : St) (dst : Option Nat) (K : St → Prop) : Prop :=
  ((∀ x ∈ args, frzOk s.H x) ∧ ∃ v l, SatP P f (args.map (frzA s.H)) v l ∧ s.room l.length = true ∧ ∃ s', (s.imp l).putd dst (shV s.nx v) = some s' ∧ K s') ∨ OwnCall P f args s dst K
/-- What is left to do behind a call. -/
def contV (P : Program) (ty : Ty) (ops : Array Oper) (rest : List Oper) (K : St → Prop) (s : St) : Prop := vops P ty ops rest s K
theorem contV_at : contV P ty ops rest K ⟨tm, H, nx, N, lim⟩ = vops P ty ops rest ⟨tm, H, nx, N, lim⟩ K := rfl
theorem vops_call {f : FuncId} {xs : Array Operand} {ts : Array TypeId} {dd : Option Nat} : vops P ty ops (⟨dd, .call ⟨.value (.func f), xs, ts⟩, t, p, af, none⟩ :: rest) s K =
    CallK P f (handed ty s xs.toList ts.toList) s dd (contV P ty ops rest K) := by
  simp only [vops, vop, vwant, fcall, List.append_nil, CallK]
  rfl
/-- A call of a function value. -/
def CallV (P : Program) (v : VV) (args : List VV) (s : St) (dst : Option Nat) (K : St → Prop) : Prop :=
  match v with
  | .clo f caps => caps.all capOk = true ∧ CallK P f (args ++ caps) s dst K
  | _ => False
theorem callV_clo {f : FuncId} {caps args : List VV} {dst : Option Nat} : CallV P (.clo f caps) args s dst K = (caps.all capOk = true ∧ CallK P f (args ++ caps) s dst K) := rfl
theorem vops_callv {u : Nat} {xs : Array Operand} {ts : Array TypeId} {dd : Option Nat} : vops P ty ops (⟨dd, .call ⟨.value (.tmp u), xs, ts⟩, t, p, af, none⟩ :: rest) ⟨tm, H, nx, N, lim⟩ K =
    CallV P (tm u) (handed ty ⟨tm, H, nx, N, lim⟩ xs.toList ts.toList) ⟨tm, H, nx, N, lim⟩ dd (contV P ty ops rest K) := by
  show _ = CallV P (tm u) (handed ty ⟨tm, H, nx, N, lim⟩ xs.toList ts.toList) ⟨tm, H, nx, N, lim⟩ dd (fun s' => vops P ty ops rest s' K)
  simp only [vops, vop, vwant, fcall]
  cases hu : tm u with
  | clo f caps =>
    simp only [CallV]
    by_cases hc : caps.all capOk = true
    · simp only [hc, if_true, true_and, CallK]
    · simp only [hc, if_false, false_and]
      simp [vexec, vval]
  | _ => simp [CallV, vexec, vval]
theorem vops_makeFunc {f : FuncId} {fi ca : Array Operand} : vops P ty ops (⟨some d, .makeFunc (.func f) fi ca, t, p, af, none⟩ :: rest) s K = Puts P ty ops rest K s d (vMakeFunc f fi.size (ca.toList.map (ev s))) := vops_val rfl rfl
theorem callK {f : FuncId} {args : List VV} {dd : Nat} {v : VV} {l : List (TypeId × List (List PT))} (hok : ∀ x ∈ args, frzOk H x) {args' : List VV} (ha : args.map (frzA H) = args') (hS : SatP P f args' v l) (hr : (⟨tm, H, nx, N, lim⟩ : St).room l.length = true)
    (hd : dd < N) (hK : K ⟨updV dd (shV nx v) tm, addH nx l H, nx + l.length, N, lim⟩) : CallK P f args ⟨tm, H, nx, N, lim⟩ (some dd) K :=
  .inl ⟨hok, v, l, by rw [ha]; exact hS, hr, _, if_pos hd, hK⟩
/-- A call that turns what lies under the tokens of σ. -/
theorem callO {f : FuncId} {args : List VV} {dd : Nat} {v : VV} {O : List Ent} (σ : List Nat) (hn : σ.Nodup) (h1 : ∀ T ∈ σ, viewOkE σ H (H T)) (h2 : ∀ x ∈ args, viewOk σ H x) {args' : List VV} (ha : args.map (viewA σ H) = args') {I : List Ent} (hI : (σ.map fun T => viewE σ H (H T)) = I)
    (hS : SatO P f args' I v O) (hd : dd < N) (hK : K ⟨updV dd (bkV σ nx v) tm, putO (bkE σ nx) σ nx O H, nx + (O.length - σ.length), N, none⟩) : CallK P f args ⟨tm, H, nx, N, none⟩ (some dd) K :=
  .inr ⟨rfl, σ, v, O, hn, h1, h2, by rw [ha, hI]; exact hS, rfl, _, if_pos hd, hK⟩

/-- Is it done? -/
def GuardV (P : Program) (ty : Ty) (ops : Array Oper) (o : Oper) (b : Bool) (rest : List Oper) (s : St) (K : St → Prop) (u : Nat) (v : VV) : Prop :=
  match v with
  | .bool c => if c = b then vops P ty ops (o :: rest) s K else ∃ s', s.putd o.dst (.tup []) = some s' ∧ vops P ty ops rest s' K
  | .tup [] => ∃ s', s.putd o.dst (.tup []) = some s' ∧ vops P ty ops rest s' K
  | _ => False
def Guard (P : Program) (ty : Ty) (ops : Array Oper) (o : Oper) (b : Bool) (rest : List Oper) (s : St) (K : St → Prop) (t : Option Nat) : Prop :=
  match t with
  | none => ∃ s', s.putd o.dst (.tup []) = some s' ∧ vops P ty ops rest s' K
  | some t => GuardV P ty ops o b rest s K t (s.tm t)
theorem vops_guard {dd : Option Nat} {op : Op} {j : Nat} {b : Bool} : vops P ty ops (⟨dd, op, t, p, af, some (j, b)⟩ :: rest) s K = Guard P ty ops ⟨dd, op, t, p, af, none⟩ b rest s K ((ops[j]?).bind (·.dst)) := by
  unfold Guard GuardV
  simp only [vops, vop, vwant]
  cases h : (ops[j]?).bind (·.dst) with
  | none => rfl
  | some u =>
    simp only
    cases hu : s.tm u with
    | bool c => cases c <;> cases b <;> rfl
    | tup l => cases l <;> rfl
    | _ => rfl
theorem guard_some {o : Oper} {b : Bool} {u : Nat} : Guard P ty ops o b rest ⟨tm, H, nx, N, lim⟩ K (some u) = GuardV P ty ops o b rest ⟨tm, H, nx, N, lim⟩ K u (tm u) := rfl
theorem guardV_tt {o : Oper} {u : Nat} : GuardV P ty ops o true rest s K u (.bool true) = vops P ty ops (o :: rest) s K := rfl
theorem guardV_ff {o : Oper} {u : Nat} : GuardV P ty ops o false rest s K u (.bool false) = vops P ty ops (o :: rest) s K := rfl
theorem guardV_tf {op : Op} {u : Nat} : GuardV P ty ops ⟨some d, op, t, p, af, none⟩ true rest ⟨tm, H, nx, N, lim⟩ K u (.bool false) = (d < N ∧ vops P ty ops rest ⟨updV d (.tup []) tm, H, nx, N, lim⟩ K) := by
  simp only [GuardV, St.putd]
  by_cases h : d < N <;> simp [h, St.put]
theorem guardV_ft {op : Op} {u : Nat} : GuardV P ty ops ⟨some d, op, t, p, af, none⟩ false rest ⟨tm, H, nx, N, lim⟩ K u (.bool true) = (d < N ∧ vops P ty ops rest ⟨updV d (.tup []) tm, H, nx, N, lim⟩ K) := by
  simp only [GuardV, St.putd]
  by_cases h : d < N <;> simp [h, St.put]
theorem guardV_no {op : Op} {b : Bool} {u : Nat} : GuardV P ty ops ⟨some d, op, t, p, af, none⟩ b rest ⟨tm, H, nx, N, lim⟩ K u (.tup []) = (d < N ∧ vops P ty ops rest ⟨updV d (.tup []) tm, H, nx, N, lim⟩ K) := by
  simp only [GuardV, St.putd]
  by_cases h : d < N <;> simp [h, St.put]
theorem guard_split {o : Oper} {b c : Bool} {u : Nat} {v : VV} (h0 : tm u = v) (h : v = .bool c) (h1 : c = true → GuardV P ty ops o b rest ⟨updV u (.bool true) tm, H, nx, N, lim⟩ K u (.bool true)) (h2 : c = false → GuardV P ty ops o b rest ⟨updV u (.bool false) tm, H, nx, N, lim⟩ K u (.bool false)) :
    GuardV P ty ops o b rest ⟨tm, H, nx, N, lim⟩ K u v := by
  subst h
  have he : ∀ v, tm u = v → updV u v tm = tm := fun v hv => by
    funext z
    by_cases hz : z = u
    · rw [hz, updV_same, hv]
    · rw [updV_ne _ _ hz]
  cases c with
  | true => have := h1 rfl; rwa [he _ h0] at this
  | false => have := h2 rfl; rwa [he _ h0] at this

theorem vdraw_nil {k b : Nat} : vdraw P ty ops [] k b s K = K (s.nm (b + k * 64)) := rfl
def contD (P : Program) (ty : Ty) (ops : Array Oper) (rest : List Oper) (k b : Nat) (K : St → Prop) (s : St) : Prop := vdraw P ty ops rest k b s K
theorem contD_at {k b : Nat} : contD P ty ops rest k b K ⟨tm, H, nx, N, lim⟩ = vdraw P ty ops rest k b ⟨tm, H, nx, N, lim⟩ K := rfl
theorem vdraw_cons {o : Oper} {k b : Nat} : vdraw P ty ops (o :: rest) k b s K = vops P ty ops [o] (s.win (b + k * 64) (b + (k + 1) * 64)) (contD P ty ops rest (k + 1) b K) := rfl
theorem VWP_draw_k (hT : TyOK P ty) (hm : P.follows .mixedOrders = true) {id : Nat} {l : List Oper} {Q : Exit → St → Prop} (hok : drawOK l.toArray = true) (hlim : s.lim = none) (h : vdraw P ty l.toArray l 0 s.nx s (Q .normal)) : VWP P E (.region id l.toArray true) Q s :=
  VWP_draw hT hm hok hlim (by simpa using h)

/-! ### Control -/
theorem VWP_seq_k {a b : Code} {Q : Exit → St → Prop} (h : ∀ K : St → Prop, (∀ s, VWP P E b Q s → K s) → VWP P E a (thenQ K Q) s) : VWP P E (.seq a b) Q s := VWP_seq (h _ fun _ h => h)
theorem VWP_region_k (hT : TyOK P ty) {id : Nat} {l : List Oper} {Q : Exit → St → Prop} (h : vops P ty l.toArray l s (Q .normal)) : VWP P E (.region id l.toArray false) Q s := VWP_region hT (by simpa using h)
theorem VWP_cond2 {c : Operand} {a b : Code} {Q : Exit → St → Prop} (v : Bool) (hc : ev s c = .bool v) (h1 : v = true → VWP P E a Q s) (h2 : v = false → VWP P E b Q s) : VWP P E (.cond c a b) Q s :=
  VWP_cond hc (by cases v; exact h2 rfl; exact h1 rfl)
theorem thenQ_normal {Q : Exit → St → Prop} : thenQ K Q .normal s = K s := rfl
theorem thenQ_exit {i : Nat} {Q : Exit → St → Prop} : thenQ K Q (.exit i) s = Q (.exit i) s := rfl
theorem thenQ_ret {Q : Exit → St → Prop} : thenQ K Q .ret s = Q .ret s := rfl
theorem blockQ_normal {i : Nat} {Q : Exit → St → Prop} : blockQ i Q .normal s = Q .normal s := rfl
theorem blockQ_ret {i : Nat} {Q : Exit → St → Prop} : blockQ i Q .ret s = Q .ret s := rfl
theorem blockQ_exit {i j : Nat} {Q : Exit → St → Prop} : blockQ i Q (.exit j) s = if j = i then Q .normal s else Q (.exit j) s := rfl
theorem retQ_ret {rs : List ResultVar} {v : VV} {l : List (TypeId × List (List PT))} : RetQ P ty rs v l .ret s = RetOK P ty rs v l s := rfl
theorem retQ_normal {rs : List ResultVar} {v : VV} {l : List (TypeId × List (List PT))} : RetQ P ty rs v l .normal s = RetOK P ty rs v l s := rfl

/-- A state that is known by lists. -/
theorem wk_list {s : St} {tl : List (Nat × VV)} {hl : List (Nat × Ent)} {n' : Nat} (h1 : ∀ p ∈ tl, s.tm p.1 = p.2) (h2 : ∀ p ∈ hl, s.H p.1 = p.2) (hn : s.nx ≤ n') (hlim : s.lim = none) : Wk s ⟨tmL tl, hpL hl, n', s.N, none⟩ := by
  refine ⟨fun t => ?_, fun T => ?_, hn, rfl, hlim, rfl⟩
  · have : ∀ tl : List (Nat × VV), (∀ p ∈ tl, s.tm p.1 = p.2) → tmL tl t = s.tm t ∨ tmL tl t = .any := by
      intro tl
      induction tl with
      | nil => intro _; exact .inr rfl
      | cons q tl ih =>
        intro h
        obtain ⟨u, v⟩ := q
        simp only [tmL]
        split
        · rename_i hu
          left
          rw [hu]
          exact (h (u, v) (List.mem_cons_self ..)).symm
        · exact ih fun p hp => h p (List.mem_cons_of_mem _ hp)
    exact this tl h1
  · have : ∀ hl : List (Nat × Ent), (∀ p ∈ hl, s.H p.1 = p.2) → hpL hl T = s.H T ∨ hpL hl T = .dead := by
      intro hl
      induction hl with
      | nil => intro _; exact .inr rfl
      | cons q hl ih =>
        intro h
        obtain ⟨u, v⟩ := q
        simp only [hpL]
        split
        · rename_i hu
          left
          rw [hu]
          exact (h (u, v) (List.mem_cons_self ..)).symm
        · exact ih fun p hp => h p (List.mem_cons_of_mem _ hp)
    exact this hl h2

def scalV : VV → Bool
  | .int _ _ | .bool _ | .str _ | .err _ => true
  | _ => false
theorem exV_scal {v : VV} (h : scalV v = true) : exV H v = some (v, []) := by
  cases v <;> first | rfl | (simp [scalV] at h)
theorem exA_scal {v : VV} (h : scalV v = true) (acc : List Out) : exA H v acc = some (v, acc) := by
  cases v <;> first | rfl | (simp [scalV] at h)

/-- One number, bool or string is handed back. -/
theorem ret_scal {u : Nat} {x v : VV} (h : tm u = x) (hs : scalV v = true) (he : x = v) : RetOK P ty [.tmp u] v [] ⟨tm, H, nx, N, lim⟩ := by
  subst he
  exact ⟨[], _, [x], [], rfl, by simp only [vres, h], exV_scal hs, List.nodup_nil, rfl, fun y hy => by simp at hy⟩
theorem ret_scal2 {u u' : Nat} {x y v v' : VV} (h : tm u = x) (h' : tm u' = y) (hs : scalV v = true) (hs' : scalV v' = true) (he : x = v) (he' : y = v') : RetOK P ty [.tmp u, .tmp u'] (.tup [v, v']) [] ⟨tm, H, nx, N, lim⟩ := by
  subst he; subst he'
  refine ⟨[], _, [x, y], [], rfl, by simp only [vres, h, h'], ?_, List.nodup_nil, rfl, fun y hy => by simp at hy⟩
  simp only [wrap, exV, exAs, exA_scal hs, exA_scal hs']
/-- A slice that the function made. -/
theorem ret_rf {u T n : Nat} {e : TypeId} {rows : List (List PT)} (h : tm u = .rf T n) (hH : H T = .root e rows) (hn : n = rows.length) (hp : PurRows rows) : RetOK P ty [.tmp u] (.rf 0 n) [(e, rows)] ⟨tm, H, nx, N, lim⟩ := by
  subst hn
  refine ⟨[], _, [.rf T rows.length], [(some T, e, rows)], rfl, by simp only [vres, h], ?_, by simp, rfl, fun y hy => by simp at hy; subst hy; exact hp⟩
  simp only [wrap, exV, exA, exC, hH, Nat.le_refl, if_true, List.take_length, List.nil_append, List.length_nil]
/-- A slice that the function made, and a number or bool. -/
theorem ret_rfs {u u' T n : Nat} {e : TypeId} {rows : List (List PT)} {x v : VV} (h : tm u = .rf T n) (h' : tm u' = x) (hs : scalV x = true) (hH : H T = .root e rows) (he : x = v) (hn : n = rows.length) (hp : PurRows rows) :
    RetOK P ty [.tmp u, .tmp u'] (.tup [.rf 0 n, v]) [(e, rows)] ⟨tm, H, nx, N, lim⟩ := by
  subst hn; subst he
  refine ⟨[], _, [.rf T rows.length, x], [(some T, e, rows)], rfl, by simp only [vres, h, h'], ?_, by simp, rfl, fun y hy => by simp at hy; subst hy; exact hp⟩
  simp only [wrap, exV, exAs, exA, exC, hH, Nat.le_refl, if_true, List.take_length, List.nil_append, List.length_nil]
  cases x <;> first | rfl | (simp [scalV] at hs)
theorem ret_nl {u : Nat} {e : TypeId} (h : tm u = .nl e) : RetOK P ty [.tmp u] (.rf 0 0) [(e, [])] ⟨tm, H, nx, N, lim⟩ := by
  refine ⟨[], _, [.nl e], [(none, e, [])], rfl, by simp only [vres, h], ?_, by simp, rfl, fun y hy => by simp at hy; subst hy; intro r hr; simp at hr⟩
  simp only [wrap, exV, exA, exC, List.nil_append, List.length_nil]

theorem ret_mk {rs : List ResultVar} {vs : List VV} {v : VV} {l : List (TypeId × List (List PT))} {acc : List Out} (h1 : vres ty s rs = some vs) (h2 : exV s.H (wrap vs) = some (v, acc)) (h3 : (acc.filterMap (·.1)).Nodup) (h4 : acc.map (·.2) = l)
    (h5 : ∀ x ∈ l, PurRows x.2) : RetOK P ty rs v l s := ⟨[], _, vs, acc, rfl, h1, h2, h3, h4, h5⟩
/-- As 'ret_mk', where slices that lie in rows of others are taken into their trees first. -/
theorem ret_mg {rs : List ResultVar} {vs : List VV} {v : VV} {l : List (TypeId × List (List PT))} {acc : List Out} {H' : Heap} (ms : List (Nat × Nat × Nat)) (h0 : merges ms s.H = some H') (h1 : vres ty s rs = some vs) (h2 : exV H' (wrap vs) = some (v, acc)) (h3 : (acc.filterMap (·.1)).Nodup) (h4 : acc.map (·.2) = l)
    (h5 : ∀ x ∈ l, PurRows x.2) : RetOK P ty rs v l s := ⟨ms, H', vs, acc, h0, h1, h2, h3, h4, h5⟩

/-! ### What a function hands back that turns what it is handed -/
theorem retQO_ret {rs : List ResultVar} {m : Nat} {v : VV} {O : List Ent} : RetQO P ty rs m v O .ret s = RetO P ty rs m v O s := rfl
theorem retQO_normal {rs : List ResultVar} {m : Nat} {v : VV} {O : List Ent} : RetQO P ty rs m v O .normal s = RetO P ty rs m v O s := rfl
theorem hpE_at (l : List Ent) (T : Nat) : HpE l T = (l[T]?).getD .dead := rfl
def keepsL : Nat → List Ent → Heap → Prop
  | _, [], _ => True
  | k, x :: xs, H => H k = x ∧ keepsL (k + 1) xs H
theorem keepsL_spec : ∀ {Ks : List Ent} {n : Nat} {H : Heap}, keepsL n Ks H → ∀ (k : Nat) (x : Ent), Ks[k]? = some x → H (n + k) = x
  | [], n, H, h, k, x, hx => by simp at hx
  | y :: Ks, n, H, h, 0, x, hx => by simp only [List.getElem?_cons_zero, Option.some.injEq] at hx; subst hx; exact h.1
  | y :: Ks, n, H, h, k + 1, x, hx => by
    have := keepsL_spec h.2 k x (by simpa using hx)
    rw [show n + (k + 1) = n + 1 + k by omega]
    exact this
theorem retO_mk {rs : List ResultVar} {m : Nat} {vs : List VV} {v : VV} {O K2 : List Ent} {acc acc1 : List Out} {H' : Heap} (ms : List (Nat × Nat × Nat)) (h0 : merges ms s.H = some H') (Ks : List Ent) (h1 : Ks.length = m) (h2 : keepsL 0 Ks H') (h3 : exEs m H' Ks [] = some (K2, acc1))
    (h4 : vres ty s rs = some vs) (h5 : exOV m H' (wrap vs) acc1 = some (v, acc)) (h6 : (acc.filterMap (·.1)).Nodup) (h7 : K2 ++ acc.map rootOf = O) : RetO P ty rs m v O s :=
  ⟨ms, H', Ks, K2, acc1, vs, acc, h0, h1, fun k x hx => by have := keepsL_spec h2 k x hx; rwa [Nat.zero_add] at this, h3, h4, h5, h6, h7⟩
/-- A number, bool or string is handed back, one slice was turned. -/
theorem retO_one {u : Nat} {x v : VV} {e : TypeId} {rows rows' : List (List PT)} (h : tm u = x) (hs : scalV v = true) (hH : H 0 = .root e rows) (he : x = v) (hr : rows = rows') : RetO P ty [.tmp u] 1 v [.root e rows'] ⟨tm, H, nx, N, lim⟩ := by
  subst he; subst hr
  refine retO_mk [] rfl [.root e rows] rfl ⟨hH, trivial⟩ rfl (vs := [x]) (by simp only [vres, h]) (acc := []) ?_ (by simp) rfl
  cases x <;> first | rfl | (simp [scalV] at hs)

/-- A round of a loop has gone well. -/
def NextL {X : Type} (tl : X → List (Nat × VV)) (hl : X → List (Nat × Ent)) (μ : X → Nat) (J : X → Prop) (B N : Nat) (x : X) (s' : St) : Prop :=
  ∃ ms H', merges ms s'.H = some H' ∧ ∃ x', J x' ∧ μ x' < μ x ∧ (∀ p ∈ tl x', s'.tm p.1 = p.2) ∧ (∀ p ∈ hl x', H' p.1 = p.2) ∧ B ≤ s'.nx ∧ s'.N = N ∧ s'.lim = none
theorem nextL {X : Type} {tl : X → List (Nat × VV)} {hl : X → List (Nat × Ent)} {μ : X → Nat} {J : X → Prop} {B : Nat} {x : X} (x' : X) (h1 : J x') (h2 : μ x' < μ x) (h3 : ∀ p ∈ tl x', tm p.1 = p.2) (h4 : ∀ p ∈ hl x', H p.1 = p.2) (h5 : B ≤ nx) :
    NextL tl hl μ J B N x ⟨tm, H, nx, N, none⟩ := ⟨[], _, rfl, x', h1, h2, h3, h4, h5, rfl, rfl⟩
theorem nextM {X : Type} {tl : X → List (Nat × VV)} {hl : X → List (Nat × Ent)} {μ : X → Nat} {J : X → Prop} {B : Nat} {x : X} {H' : Heap} (ms : List (Nat × Nat × Nat)) (h0 : merges ms H = some H') (x' : X) (h1 : J x') (h2 : μ x' < μ x) (h3 : ∀ p ∈ tl x', tm p.1 = p.2) (h4 : ∀ p ∈ hl x', H' p.1 = p.2) (h5 : B ≤ nx) :
    NextL tl hl μ J B N x ⟨tm, H, nx, N, none⟩ := ⟨ms, H', h0, x', h1, h2, h3, h4, h5, rfl, rfl⟩

/-- A loop whose state is known by lists. -/
theorem VWP_loopL {X : Type} (tl : X → List (Nat × VV)) (hl : X → List (Nat × Ent)) (μ : X → Nat) (J : X → Prop) (B : Nat) (x0 : X) {c : Code} {Q : Exit → St → Prop} (hJ : J x0) (h1 : ∀ p ∈ tl x0, tm p.1 = p.2) (h2 : ∀ p ∈ hl x0, H p.1 = p.2) (hB : B ≤ nx)
    (round : ∀ x nx, J x → B ≤ nx → VWP P E c (thenQ (NextL tl hl μ J B N x) Q) ⟨tmL (tl x), hpL (hl x), nx, N, none⟩) :
    VWP P E (.loop c) Q ⟨tm, H, nx, N, none⟩ := by
  refine VWP_loop (fun m s => ∃ x, J x ∧ m = μ x ∧ (∀ p ∈ tl x, s.tm p.1 = p.2) ∧ (∀ p ∈ hl x, s.H p.1 = p.2) ∧ B ≤ s.nx ∧ s.N = N ∧ s.lim = none) (μ x0) ⟨x0, hJ, rfl, h1, h2, hB, rfl, rfl⟩ ?_
  rintro m s ⟨x, k1, rfl, k2, k3, k4, k5, k6⟩
  have hw := wk_list k2 k3 (Nat.le_refl s.nx) k6
  rw [k5] at hw
  refine VWP_wk hw (VWP_post (fun e s he => ?_) (round x s.nx k1 k4))
  cases e with
  | normal =>
    obtain ⟨ms, H', j0, x', j1, j2, j3, j4, j5, j6, j7⟩ := he
    exact ⟨{ s with H := H' }, fun g a w hr => (rel_merges hr j0).imp fun g' h => h.1, μ x', j2, x', j1, rfl, j3, j4, j5, j6, j7⟩
  | _ => exact ⟨s, fun g a w hr => ⟨g, hr⟩, he⟩

theorem wrap_id {x : Int} (h : -9223372036854775808 ≤ x ∧ x ≤ 9223372036854775807) : IntKind.i64.wrap x = x := by
  rw [IntKind.wrap_i64]
  omega
end

theorem le_maxLen {n : Nat} (h : n ≤ 1152921504606846976) : (n ≤ maxLen) = True := by
  have : maxLen = 9223372036854775807 := rfl
  rw [this]
  exact eq_true (by omega)

/-! ### What a walk reckons with -/
attribute [go_sem] eq_self bne_self_eq_false Option.isSome_some ev_func callV_clo vops_callv vops_makeFunc vMakeFunc capOk frzBox frzSl oneS frzCap capsOk VV.pt ptOk List.size_toArray vops_nil vops_move vops_assign vops_pick vops_binOp vops_unOp vops_convert vops_load vops_fieldAddr vops_field vops_indexAddr vops_index vops_extract vops_slice vops_len vops_alloc vops_box vops_store vops_build vops_buildSlice vops_makeSlice vops_append vops_call vops_guard contV_at contD_at vdraw_nil vdraw_cons St.win St.nm guard_some guardV_tt guardV_ff guardV_tf guardV_ft guardV_no puts_some runs_some ev_tmp ev_const updV_at updH_at tmL hpL ofConst retype thenQ_normal thenQ_exit thenQ_ret blockQ_normal blockQ_ret blockQ_exit retQ_ret retQ_normal if_true if_false ite_true ite_false dite_true true_and and_true Bool.false_eq_true Bool.true_eq_false Bool.not_true Bool.not_false not_true_eq_false not_false_eq_true List.getElem?_toArray List.getElem?_cons_succ List.getElem?_cons_zero List.getElem?_nil Option.getD_some Option.getD_none Option.bind_some Option.bind_none Option.map_some Option.map_none List.length_cons List.length_nil List.take_succ_cons List.take_zero List.take_nil List.drop_succ_cons List.drop_zero List.drop_nil List.map_cons List.map_nil List.replicate_zero List.replicate_succ List.range_zero List.range_succ putO bkE bkV bkA bkC tkB idx viewA viewC viewE retQO_ret retQO_normal hpE_at Nat.add_zero Nat.sub_self List.all_cons List.all_nil Bool.and_true Bool.true_and List.cons_append List.nil_append List.append_nil vBin isShift vArith vShift vStr vUn vPick vpick3 cond_true cond_false vConv intOfT isBo isStr isSl vLoad vFieldAddr vField fieldOf sizeT vPart vIndexAddr vIndex vExtract vSlice bound vBuiltin vLen vMin vMax vAlloc vBoxd xBox xStore xMake xAppend xBuildSlice vBuild evParts partTy vfill spl toCells chunks VV.cells VV.cell VV.known PT.vv plainCell rowVV zPT scal srcRows srcTy St.putd St.put St.room Ent.live Ent.isRoot TyD.isAgg handed shV shA shC addH decide_true decide_false or_self or_false false_or or_true true_or and_self and_false false_and ne_eq beq_self_eq_true BEq.rfl List.isEmpty_nil List.length_map Int.toNat_natCast List.getElem?_map
end Go.Proofs.Ytclljpdcpcolpaa
