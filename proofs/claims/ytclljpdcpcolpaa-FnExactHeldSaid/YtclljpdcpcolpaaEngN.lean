/- The value-level engine, fourteenth part: every operation but calls. -/
import Derived.Test.YtclljpdcpcolpaaEngM
namespace Go.Proofs.Ytclljpdcpcolpaa
open Go Go.RowKit
set_option linter.unusedVariables false
set_option linter.unusedSimpArgs false

def St.putd (s : St) (d : Option Nat) (x : VV) : Option St :=
  match d with
  | some d => if d < s.N then some (s.put d x) else none
  | none => some s

/-- Is there room for k tokens? -/
def St.room (s : St) (k : Nat) : Bool :=
  match s.lim with
  | none => true
  | some m => decide (s.nx + k ≤ m)

def chunks (sz n : Nat) (l : List PT) : List (List PT) := (List.range n).map fun i => (l.drop (i * sz)).take sz

def VV.known : VV → Bool
  | .any => false
  | _ => true

def zPT : VV → PT
  | .int k n => .int k n
  | .bool b => .bool b
  | .str s => .str s
  | .nl e => .list e []
  | _ => .hole

def scal : PT → Bool
  | .int _ _ | .bool _ | .str _ => true
  | _ => false

def xBox (s : St) (vs : List VV) (dst : Option Nat) : Option St :=
  if vs = [] ∨ s.room 1 = false then none else St.putd { s with H := updH s.nx (.box vs) s.H, nx := s.nx + 1 } dst (.bp s.nx 0)

def xStore (ty : Ty) (s : St) (t : TypeId) (x y : VV) : Option St :=
  match y.cells with
  | none => none
  | some vs =>
    if vs.length = sizeT ty t ∧ 0 < vs.length ∧ vs.all VV.known = true then
      match x with
      | .bp T j => match s.H T with
        | .box cs => if j + vs.length ≤ cs.length then some { s with H := updH T (.box (spl cs j vs)) s.H } else none
        | _ => none
      | .np T i j => match toCells vs s.nx s.H with
        | some (ps, n, H) => match s.H T with
          | .root e rows => match rows[i]? with
            | some r => if j + ps.length ≤ r.length ∧ s.room (n - s.nx) = true then some { s with H := updH T (.root e (rows.set i (spl r j ps))) H, nx := n } else none
            | none => none
          | _ => none
        | none => none
      | _ => none
    else none

def xBuildSlice (ty : Ty) (s : St) (t : TypeId) (len : Nat) (parts : List (Nat × VV)) (dst : Option Nat) : Option St :=
  match ty t with
  | some ⟨.sl e, _, _, _⟩ => match ty e with
    | some d =>
      if d.size = 0 ∨ d.zero = [] ∨ 16777216 < len * d.size then none else
      match vfill (fun i => some (i * d.size, d.size)) (List.replicate (len * d.size) .any) parts with
      | some flat => match toCells flat s.nx s.H with
        | some (ps, n, H) => if s.room (n + 1 - s.nx) = true then St.putd { s with H := updH n (.root e (chunks d.size len ps)) H, nx := n + 1 } dst (.rf n len) else none
        | none => none
      | none => none
    | none => none
  | _ => none

def xMake (ty : Ty) (s : St) (t : TypeId) (l c : VV) (dst : Option Nat) : Option St :=
  match ty t, l, c with
  | some ⟨.sl e, _, _, _⟩, .int _ n, .int _ m => match ty e with
    | some d =>
      if n = m ∧ 0 ≤ n ∧ (d.bytes : Int) * n ≤ 281474976710656 ∧ n ≤ 9223372036854775807 ∧ d.zero ≠ [] ∧ d.zero.length = d.size ∧ s.room 1 = true then
        St.putd { s with H := updH s.nx (.root e (List.replicate n.toNat (d.zero.map zPT))) s.H, nx := s.nx + 1 } dst (.rf s.nx n.toNat)
      else none
    | none => none
  | _, _, _ => none

/-- The rows of what is appended. -/
def srcRows (s : St) (x : VV) : Option (List (List PT)) :=
  match x with
  | .nl _ => some []
  | .fr _ rows => if rows.all (·.all scal) then some rows else none
  | .rf T m => match s.H T with
    | .root _ rows => if m ≤ rows.length ∧ (rows.take m).all (·.all plainCell) = true then some (rows.take m) else none
    | _ => none
  | _ => none
def srcTy (s : St) (x : VV) (e : TypeId) : Bool :=
  match x with
  | .nl _ => true
  | .fr e' _ => e' == e
  | .rf T _ => match s.H T with
    | .root e' _ => e' == e
    | _ => false
  | _ => false

def xAppend (ty : Ty) (s : St) (t : TypeId) (x y : VV) (dst : Option Nat) : Option St :=
  match ty t with
  | some ⟨.sl e, _, _, _⟩ => match ty e, srcRows s y with
    | some d, some ns =>
      if d.zero ≠ [] ∧ d.zero.length = d.size ∧ srcTy s y e = true then
        match x with
        | .nl _ =>
          if ns.length * d.bytes ≤ 140737488355328 ∧ ns.length ≤ maxLen ∧ s.room 2 = true then
            St.putd { s with H := updH (s.nx + 1) (.root e ns) (updH s.nx .dead (updH s.nx (.root e []) s.H)), nx := s.nx + 2 } dst (.rf (s.nx + 1) ns.length)
          else none
        | .rf T n => match s.H T with
          | .root e' rows =>
            if e' = e ∧ n ≤ rows.length ∧ (n + ns.length) * d.bytes ≤ 140737488355328 ∧ n + ns.length ≤ maxLen ∧ s.room 1 = true then
              St.putd { s with H := updH s.nx (.root e (rows.take n ++ ns)) (updH T .dead s.H), nx := s.nx + 1 } dst (.rf s.nx (n + ns.length))
            else none
          | _ => none
        | _ => none
      else none
    | _, _ => none
  | _ => none

/-- An operation, but a call of a function. -/
def vexec (ty : Ty) (s : St) (o : Oper) : Option St :=
  match o.op with
  | .alloc t => match ty t with
    | some d => xBox s d.zero o.dst
    | none => none
  | .box t x => match (ev s x).cells with
    | some vs => xBox s vs o.dst
    | none => none
  | .store t x y => match o.dst with
    | none => xStore ty s t (ev s x) (retype ty t (ev s y))
    | some _ => none
  | .build t parts => (vBuild ty t (evParts ty s t parts)).bind (s.putd o.dst)
  | .buildSlice t len parts => xBuildSlice ty s t len (evParts ty s t parts) o.dst
  | .makeSlice t l c => xMake ty s t (ev s l) (ev s c) o.dst
  | .call c => match c.callee with
    | .builtin .append => match c.args.toList, c.argTypes.toList with
      | [x, y], [t, t'] => if t = t' then xAppend ty s t (retype ty t (ev s x)) (ev s y) o.dst else none
      | _, _ => none
    | _ => (vval ty s o).bind (s.putd o.dst)
  | _ => (vval ty s o).bind (s.putd o.dst)

section
variable {P : Program} {E : Env} {g g' : Gh} {s : St} {a : Act} {w w' : World} {ty : Ty}

/-- The operation goes well, and the state behind it is this one. -/
def Does (P : Program) (E : Env) (g : Gh) (s : St) (a : Act) (w : World) (o : Oper) (s' : St) : Prop :=
  ∃ g' a' w', Rel P E g' s' a' w' ∧ HLe g s.H g' s'.H ∧ (∀ T, (s.nx ≤ T → s'.nx ≤ T) → g'.sn T = g.sn T) ∧
    ((∃ v, (execOp a.eval o).run P w = .ok (.value v) w' ∧ a' = a.put o.dst v) ∨ ((execOp a.eval o).run P w = .ok .skip w' ∧ a' = a.put o.dst undef))

theorem rel_step (h : Rel P E g s a w) {H' : Heap} {n' : Nat} (hle : HLe g s.H g' H') (hh : HRel P E g' H' w') (hf : ∀ T, ({ s with H := H', nx := n' } : St).fresh T → g'.sn T = false) :
    Rel P E g' { s with H := H', nx := n' } a w' :=
  ⟨h.size, h.defers, hh, hf, fun t => vrel_mono hle (h.tmps t), E.pinOk _ _ _ _ hle h.pin⟩

theorem putd_rel {s' : St} (h : Rel P E g s a w) {d : Option Nat} {x : VV} {v : Value} (hx : VRel P E s.H g x v) (hp : s.putd d x = some s') : Rel P E g s' (a.put d v) w ∧ s'.H = s.H ∧ s'.nx = s.nx := by
  cases d with
  | none =>
    simp only [St.putd, Option.some.injEq] at hp
    subst hp
    exact ⟨h, rfl, rfl⟩
  | some d =>
    simp only [St.putd] at hp
    split at hp
    · rename_i hd
      simp only [Option.some.injEq] at hp
      subst hp
      exact ⟨put_rel h hd hx, rfl, rfl⟩
    · cases hp

theorem does_val (hT : TyOK P ty) (h : Rel P E g s a w) {o : Oper} {s' : St} {x : VV} (hg : Gives P E g s a w o x) (hp : s.putd o.dst x = some s') : Does P E g s a w o s' := by
  obtain ⟨v, h1, h2⟩ := hg
  obtain ⟨h3, h4, h5⟩ := putd_rel h h2 hp
  exact ⟨g, _, w, h3, by rw [h4]; exact HLe.refl _ _, fun _ _ => rfl, .inl ⟨v, h1, rfl⟩⟩

theorem fresh_at (h : Rel P E g s a w) {k : Nat} (hr : s.room k = true) {X : Nat} (h1 : s.nx ≤ X) (h2 : X < s.nx + k) : g.sn X = false := by
  refine h.fresh X ⟨h1, ?_⟩
  unfold St.room at hr
  cases hl : s.lim with
  | none => trivial
  | some m =>
    rw [hl] at hr
    have : s.nx + k ≤ m := by simpa using hr
    show X < m
    omega
theorem fresh_on {s : St} {H' : Heap} {n' T : Nat} (hn : s.nx ≤ n') (h : ({ s with H := H', nx := n' } : St).fresh T) : s.fresh T ∧ n' ≤ T := by
  obtain ⟨h1, h2⟩ := h
  exact ⟨⟨Nat.le_trans hn h1, h2⟩, h1⟩

theorem does_box (h : Rel P E g s a w) {o : Oper} {s' : St} {vs : List VV} {V : Value} {e : TypeId} (hx : xBox s vs o.dst = some s') (hl : LRel P E s.H g vs V.cells.toList)
    (hr : (execOp a.eval o).run P w = .ok (.value (.pointer (some ⟨w.heap.size, 0, none⟩))) (w.alloc (.cells V.cells e))) : Does P E g s a w o s' := by
  unfold xBox at hx
  split at hx
  · cases hx
  · rename_i hc
    have hroom : s.room 1 = true := by
      cases hq : s.room 1 with
      | true => rfl
      | false => exact absurd (.inr hq) hc
    have hX := fresh_at h hroom (Nat.le_refl _) (by omega)
    obtain ⟨h1, hle⟩ := hrel_box h.heap hX vs V.cells.toList e hl.1 hl.2
    simp only [Array.toArray_toList] at h1
    have h2 := rel_step (n' := s.nx + 1) h hle h1 (fun T hT => by
      obtain ⟨f1, f2⟩ := fresh_on (Nat.le_succ _) hT
      have : T ≠ s.nx := by omega
      simp [Gh.box, this, h.fresh T f1])
    have hp : VRel P E (updH s.nx (.box vs) s.H) (g.box s.nx w.heap.size) (.bp s.nx 0) (.pointer (some ⟨w.heap.size, 0, none⟩)) :=
      ⟨by simp [Gh.box], rfl, fun _ => by simp [Gh.box]⟩
    obtain ⟨h3, h4, h5⟩ := putd_rel h2 hp hx
    refine ⟨_, _, _, h3, by rw [h4]; exact hle, fun T hT => ?_, .inl ⟨_, hr, rfl⟩⟩
    rw [h5] at hT
    have hT : s.nx ≤ T → s.nx + 1 ≤ T := hT
    have : T ≠ s.nx := by omega
    simp [Gh.box, this]

theorem lrel_one {H : Heap} {vs : List VV} {us : List Value} (h : LRel P E H g vs us) (hn : ∀ x ∈ vs, x ≠ .any) : ∀ u ∈ us, u.oneCell' = true := by
  intro u hu
  obtain ⟨j, hj⟩ := List.getElem?_of_mem hu
  have hlt : j < vs.length := by
    have := (List.getElem?_eq_some_iff.1 hj).1
    rw [h.1] at this
    exact this
  exact crel_one (h.2 j _ u (List.getElem?_eq_getElem hlt) hj) (hn _ (List.getElem_mem hlt))

theorem run_store_cells (hT : TyOK P ty) {t : TypeId} {V : Value} (hs : V.cells.toList.length = sizeT ty t) (h0 : 0 < V.cells.toList.length) {b o : Nat} {cur : Array Value} {e : TypeId} (hw : w.heap[b]? = some (.cells cur e (0, 0)))
    (hl : o + V.cells.toList.length ≤ cur.size) (h1 : ∀ u ∈ V.cells.toList, u.oneCell' = true) :
    (Instr.storeAt t (.pointer (some ⟨b, o, none⟩)) V).run P w = .ok () (w.setRow b (spl cur.toList o V.cells.toList).toArray) := by
  obtain ⟨d, hd, hsz⟩ := sizeT_spec hT (t := t) (by omega)
  have h2 := (hT t d hd).run_size w
  have h3 := run_storeCells_at P b o e V.cells.toList 0 cur w hw (by simpa using hl) h1
  have hne : ¬ (V.cells.size ≠ d.size) := by rw [hsz, ← hs]; simp
  simp only [Nat.add_zero] at h3
  simp only [Instr.storeAt, Instr.sureAddr, Sem.run_bind, Sem.run_pure, Result.andThen_ok, storeVar, h2, if_neg hne]
  exact h3

/-- No cell that is not known. -/
def noAny (vs : List VV) : Prop := ∀ x ∈ vs, x ≠ .any

theorem does_store (hT : TyOK P ty) (h : Rel P E g s a w) {o : Oper} {t : TypeId} {x y : Operand} {s' : St} (ho : o.op = .store t x y) (hdst : o.dst = none) (hx : xStore ty s t (ev s x) (retype ty t (ev s y)) = some s') : Does P E g s a w o s' := by
  have hxr := ev_rel h x
  have hyr := retype_rel (ty := ty) t (ev_rel h y)
  suffices hh : ∃ g' w', (Instr.storeAt t (a.eval x) (a.eval y)).run P w = .ok () w' ∧ Rel P E g' s' a w' ∧ HLe g s.H g' s'.H ∧ (∀ T, (s.nx ≤ T → s'.nx ≤ T) → g'.sn T = g.sn T) by
    obtain ⟨g', w', h1, h2, h3, h4⟩ := hh
    exact ⟨g', a, w', h2, h3, h4, .inr ⟨by simp [execOp, ho, h1], by rw [hdst]; rfl⟩⟩
  generalize a.eval x = X at *
  generalize ev s x = vx at *
  generalize a.eval y = Y at *
  generalize retype ty t (ev s y) = vy at *
  unfold xStore at hx
  split at hx
  · cases hx
  · rename_i vs hvs
    have hl := cells_rel hvs hyr
    split at hx
    · rename_i hsz
      obtain ⟨hsz, h0, hk⟩ := hsz
      have h1 := lrel_one hl (fun x hx hh => by have := List.all_eq_true.mp hk x hx; rw [hh] at this; cases this)
      split at hx
      · rename_i T j
        split at hx
        · rename_i cs hcs
          split at hx
          · rename_i hj
            simp only [Option.some.injEq] at hx
            subst hx
            obtain ⟨_, _, hv⟩ := hxr
            have hv := hv (by simp [hcs, Ent.live])
            subst hv
            obtain ⟨cur, e, hw, hlen, hrel⟩ := hrel_store_box h.heap hcs hj h0 hl.1 hl.2
            have hr := run_store_cells hT (by rw [hl.1]; exact hsz) (by rw [hl.1]; exact h0) hw hlen h1
            have hle : HLe g s.H g (updH T (.box (spl cs j vs)) s.H) := hle_same (by simp [hcs, Ent.live]) (fun t rows h => by cases h)
            exact ⟨g, _, hr, rel_step h hle hrel (fun X hX => h.fresh X hX), hle, fun _ _ => rfl⟩
          · cases hx
        · cases hx
      · rename_i T i j
        split at hx
        · rename_i ps n H2 htc
          split at hx
          · rename_i e rows hroot
            split at hx
            · rename_i r hr
              split at hx
              · rename_i hj
                obtain ⟨hj, hroom⟩ := hj
                simp only [Option.some.injEq] at hx
                subst hx
                have hTlt : g.sn T = true := own_root_lt h.heap hroot
                have hnn := toCells_le _ _ _ _ _ _ htc
                obtain ⟨_, g1, k2, k3, k4, k5, k5', k6, k7, k8⟩ := toCells_rel vs Y.cells.toList s.nx s.H g ps n H2 htc h.heap (fun X hX hX2 => fresh_at h hroom hX (by omega)) hl
                obtain ⟨_, _, hv⟩ := hxr
                obtain ⟨b, m, c, hhd, rfl⟩ := hv e rows hroot
                have hroot2 : H2 T = .root e rows := by rw [k5 T hTlt]; exact hroot
                obtain ⟨b', n', cap', cur, q1, q2, q3, q4⟩ := hrel_store_root k2 hroot2 hr hj (by rw [k6]; exact h0) k8 (by rw [k6]; exact hl.1) k7
                have hbb : b' = b := by
                  rw [(k5' T hTlt).2, hhd] at q1
                  injection q1 with q1
                  injection q1 with q1
                  injection q1 with q1
                  exact q1.symm
                subst hbb
                have hrun := run_store_cells hT (by rw [hl.1]; exact hsz) (by rw [hl.1]; exact h0) q2 q3 h1
                have hle2 : HLe g1 H2 g1 (updH T (.root e (rows.set i (spl r j ps))) H2) := hle_same (by simp [hroot2, Ent.live]) (fun t rows' hh => by injection hh with e1 e2; subst e1; exact ⟨rows, hroot2⟩)
                refine ⟨g1, _, hrun, rel_step h (k4.trans hle2) q4 (fun X hX => ?_), k4.trans hle2, fun X hX => k3 X hX⟩
                obtain ⟨f1, f2⟩ := fresh_on hnn hX
                rw [k3 X (fun _ => f2)]
                exact h.fresh X f1
              · cases hx
            · cases hx
          · cases hx
        · cases hx
      · cases hx
    · cases hx

theorem chunk_get {sz n : Nat} {l : List PT} (hl : l.length = n * sz) {i : Nat} {r : List PT} (hr : (chunks sz n l)[i]? = some r) : i < n ∧ r.length = sz ∧ ∀ (j : Nat) (c : PT), r[j]? = some c → l[i * sz + j]? = some c := by
  have hi : i < n := by
    have := (List.getElem?_eq_some_iff.1 hr).1
    simpa [chunks] using this
  simp only [chunks, List.getElem?_map, List.getElem?_range hi, Option.map_some, Option.some.injEq] at hr
  subst hr
  have hb : (i + 1) * sz ≤ n * sz := Nat.mul_le_mul_right _ hi
  rw [Nat.add_mul] at hb
  refine ⟨hi, by simp [hl]; omega, fun j c hc => ?_⟩
  rw [List.getElem?_take] at hc
  split at hc
  · rwa [List.getElem?_drop] at hc
  · cases hc

theorem run_buildSlice {t e : TypeId} {sz len : Nat} {zv : Value} (hu : P.underlying t = some (.slice e)) (hs : (sizeOf e).run P w = .ok sz w) (hz : (zeroValue e).run P w = .ok zv w) (hl : len * sz ≤ 16777216)
    (parts : Array (Nat × Value)) (cells : Array Value)
    (hf : Instr.fill (fun i => some (i * sz, sz)) ((Array.range (len * sz)).map ((if len * sz = 0 then #[] else zv.cells)[· % (if len * sz = 0 then (#[] : Array Value) else zv.cells).size]!)) parts.toList = some cells) :
    (Instr.buildSlice t len parts).run P w = .ok (.slice (some ⟨w.heap.size, 0, none⟩) len len) (w.alloc (.cells cells e)) := by
  have hn : ¬ (len * sz > 2 ^ 24) := by omega
  by_cases h0 : len * sz = 0
  · rw [if_pos h0] at hf
    simp only [Instr.buildSlice, Sem.run_bind, run_underlying hu, Result.andThen_ok, hs, if_neg hn, if_pos h0, Sem.run_pure]
    simp only [hf]
    simp [newRow]
  · rw [if_neg h0] at hf
    simp only [Instr.buildSlice, Sem.run_bind, run_underlying hu, Result.andThen_ok, hs, if_neg hn, if_neg h0, hz, Sem.run_pure]
    simp only [hf]
    simp [newRow]

theorem does_buildSlice (hT : TyOK P ty) (h : Rel P E g s a w) {o : Oper} {t : TypeId} {len : Nat} {parts : Array (Nat × Operand)} {s' : St} (ho : o.op = .buildSlice t len parts)
    (hx : xBuildSlice ty s t len (evParts ty s t parts) o.dst = some s') : Does P E g s a w o s' := by
  obtain ⟨hp1, hp2⟩ := evParts_rel (ty := ty) h t parts
  have hl : (parts.map fun x => (x.1, a.eval x.2)).toList = parts.toList.map fun x => (x.1, a.eval x.2) := by simp
  unfold xBuildSlice at hx
  split at hx
  · rename_i e _ _ _ ht
    split at hx
    · rename_i d hde
      split at hx
      · cases hx
      · rename_i hc
        have hc1 : d.size ≠ 0 := fun hh => hc (.inl hh)
        have hc2 : d.zero ≠ [] := fun hh => hc (.inr (.inl hh))
        have hc3 : ¬ 16777216 < len * d.size := fun hh => hc (.inr (.inr hh))
        split at hx
        · rename_i flat hfl
          split at hx
          · rename_i ps n H2 htc
            split at hx
            rotate_left
            · cases hx
            rename_i hroom
            have hnn := toCells_le _ _ _ _ _ _ htc
            have hu : P.underlying t = some (.slice e) := (hT t _ ht).desc
            have hse := (hT e d hde).run_size w
            have hce := (hT e d hde).cells
            obtain ⟨zv, hzr, _, hzs, _⟩ := zero_rel (P := P) (E := E) (H := s.H) (g := g) (w := w) hT hde hc2
            -- what the machine begins with
            have hany : ∀ ds : List Value, ds.length = len * d.size → LRel P E s.H g (List.replicate (len * d.size) .any) ds := by
              intro ds hds
              refine ⟨by simpa using hds, fun j c u hj hu => ?_⟩
              rw [List.getElem?_replicate] at hj
              split at hj
              · simp only [Option.some.injEq] at hj; subst hj; trivial
              · cases hj
            let Z : Array Value := if len * d.size = 0 then #[] else zv.cells
            let ds : List Value := ((Array.range (len * d.size)).map (Z[· % Z.size]!)).toList
            have hds : ds.length = len * d.size := by simp [ds]
            obtain ⟨es, he, hre⟩ := fill_rel (P := P) (E := E) (g := g) (H := s.H) _ _ _ _ _ hp1 hp2 (hany ds hds) hfl
            obtain ⟨_, g1, k2, k3, k4, k5, k5', k6, k7, k8⟩ := toCells_rel flat es s.nx s.H g ps n H2 htc h.heap (fun X hX hX2 => fresh_at h hroom hX (by omega)) hre
            have hY : g1.sn n = false := by rw [k3 n (fun _ => Nat.le_refl _)]; exact fresh_at h hroom hnn (by omega)
            have hflat : ∀ (parts : List (Nat × VV)) (cs r : List VV), vfill (fun i => some (i * d.size, d.size)) cs parts = some r → r.length = cs.length := by
              intro parts
              induction parts with
              | nil => intro cs r hh; simp only [vfill, Option.some.injEq] at hh; rw [hh]
              | cons x parts ih =>
                intro cs r hh
                obtain ⟨i, v⟩ := x
                simp only [vfill] at hh
                split at hh
                · split at hh
                  · rename_i hq
                    rw [ih _ _ hh, spl_length hq.2]
                  · cases hh
                · cases hh
            have hpsl : ps.length = len * d.size := by rw [k6, hflat _ _ _ hfl]; simp
            have hel : es.length = len * d.size := by rw [hre.1, ← k6, hpsl]
            have hrl : (chunks d.size len ps).length = len := by simp [chunks]
            have hf2 := hrel_fresh (e := e) (rows := chunks d.size len ps) (cap := len) (cur := es.toArray) k2 hY (fun r hr c hcr => by
              obtain ⟨i, hi⟩ := List.getElem?_of_mem hr
              obtain ⟨_, _, hcell⟩ := chunk_get hpsl hi
              obtain ⟨j, hj⟩ := List.getElem?_of_mem hcr
              have := k8 _ c (hcell j c hj)
              cases c with
              | list e2 rows2 => exact absurd rfl (this _ _)
              | _ => trivial) (by rw [hrl]; exact Nat.le_refl _) (by
                have h0 : 0 < d.size := by omega
                have := Nat.le_mul_of_pos_right len h0
                simp only [maxLen]; omega) (by rw [hce]; simpa using hel) (fun i r hr => by
              obtain ⟨hi, hrlen, hcell⟩ := chunk_get hpsl hr
              refine ⟨by rw [hce]; exact hrlen, fun j c hcj => ?_⟩
              have h1 := hcell j c hcj
              have hlt : i * d.size + j < es.length := by rw [hel, ← hpsl]; exact (List.getElem?_eq_some_iff.1 h1).1
              exact ⟨es[i * d.size + j], by rw [hce]; simp [hlt], k7 _ c _ _ h1 (List.getElem?_eq_getElem hlt)⟩)
            rw [hrl] at hf2
            have hle2 : HLe g1 H2 _ _ := hle_new (g := g1) (H := H2) (e := .root e (chunks d.size len ps)) hY (g' := g1.fresh n (some w.heap.size) (.slice (some ⟨w.heap.size, 0, none⟩) len len)) (fun T hT => by simp [Gh.fresh, hT]) (fun T p hT => by simp [Gh.fresh, hT]) (fun T hT => rfl)
            have h2 := rel_step (n' := n + 1) h (k4.trans hle2) hf2.1 (fun T hT => by
              obtain ⟨f1, f2⟩ := fresh_on (by omega) hT
              have : T ≠ n := by omega
              simp only [Gh.fresh, this, if_false]
              rw [k3 T (fun _ => by omega)]
              exact h.fresh T f1)
            have hx' := hx
            obtain ⟨h3, h4, h5⟩ := putd_rel h2 (vrel_of_crel hf2.2) hx'
            refine ⟨_, _, _, h3, by rw [h4]; exact k4.trans hle2, fun T hT => ?_, .inl ⟨_, ?_, rfl⟩⟩
            · rw [h5] at hT
              have hT : s.nx ≤ T → n + 1 ≤ T := hT
              have : T ≠ n := by omega
              simp only [Gh.fresh, this, if_false]
              exact k3 T (fun _ => by omega)
            have hrun := run_buildSlice (w := w) (len := len) hu hse hzr (by omega) (parts.map fun x => (x.1, a.eval x.2)) es.toArray (by
              rw [hl]
              have : ds.toArray = (Array.range (len * d.size)).map (Z[· % Z.size]!) := Array.toArray_toList
              rw [← this]
              exact he)
            simp [execOp, ho, hrun]
          · cases hx
        · cases hx
    · cases hx
  · cases hx

theorem does_make (hT : TyOK P ty) (h : Rel P E g s a w) {o : Oper} {t : TypeId} {l c : Operand} {s' : St} (ho : o.op = .makeSlice t l c)
    (hx : xMake ty s t (ev s l) (ev s c) o.dst = some s') : Does P E g s a w o s' := by
  have hl := ev_rel h l
  have hc := ev_rel h c
  suffices hh : ∃ g' v w', (Instr.makeSlice t (a.eval l) (a.eval c)).run P w = .ok v w' ∧ Rel P E g' s' (a.put o.dst v) w' ∧ HLe g s.H g' s'.H ∧ (∀ T, (s.nx ≤ T → s'.nx ≤ T) → g'.sn T = g.sn T) by
    obtain ⟨g', v, w', h1, h2, h3, h4⟩ := hh
    exact ⟨g', _, w', h2, h3, h4, .inl ⟨v, by simp [execOp, ho, h1], rfl⟩⟩
  generalize a.eval l = L at *
  generalize ev s l = vl at *
  generalize a.eval c = C at *
  generalize ev s c = vc at *
  unfold xMake at hx
  split at hx
  · rename_i e _ _ _ k n k' m ht
    obtain rfl : L = .int k n := hl
    obtain rfl : C = .int k' m := hc
    split at hx
    · rename_i d hde
      split at hx
      · rename_i hc
        obtain ⟨rfl, c0, c1, c2, c3, c4, hroom⟩ := hc
        have hY := fresh_at h hroom (Nat.le_refl _) (by omega)
        have hu : P.underlying t = some (.slice e) := (hT t _ ht).desc
        have hce := (hT e d hde).cells
        obtain ⟨zv, hzr, hzl, hzs, i, hi, hiz, his, hib⟩ := zero_rel (P := P) (E := E) (H := s.H) (g := g) (w := w) hT hde c3
        have hr := run_make (P := P) w t e i zv hu hi hiz k k' n n c0 (Int.le_refl _) (by rw [hib]; exact c1) c2
        have hrl : (List.replicate n.toNat (d.zero.map zPT)).length = n.toNat := by simp
        have hconst : ∀ (j : Nat) (x : VV), d.zero[j]? = some x → ∃ u, zv.cells[j]? = some u ∧ x.const? = some u := by
          intro j x hj
          obtain ⟨i2, hi2, _, _, hzz⟩ := (hT e d hde).info
          rcases hzz with h0 | ⟨zv2, h1, h2⟩
          · exact absurd h0 c3
          · rw [hi] at hi2
            injection hi2 with hi2
            subst hi2
            rw [hiz] at h1
            injection h1 with h1
            subst h1
            have h3 := congrArg (fun l => l[j]?) h2
            simp only [List.getElem?_map, hj, Option.map_some] at h3
            cases hq : zv.cells.toList[j]? with
            | none => rw [hq] at h3; cases h3
            | some u =>
              rw [hq] at h3
              simp only [Option.map_some, Option.some.injEq] at h3
              exact ⟨u, by simpa using hq, h3.symm⟩
        have hf2 := hrel_fresh (e := e) (rows := List.replicate n.toNat (d.zero.map zPT)) (cap := n.toNat) (cur := madeCells zv.cells (n.toNat * i.size)) h.heap hY (fun r hr c hcr => by
            rw [List.mem_replicate] at hr
            rw [hr.2, List.mem_map] at hcr
            obtain ⟨x, _, rfl⟩ := hcr
            cases x <;> first | trivial | rfl) (by rw [hrl]; exact Nat.le_refl _) (by simp only [maxLen]; omega) (by rw [hce, size_madeCells, his]) (fun i' r hr => by
            have hi' : i' < n.toNat := by
              have := (List.getElem?_eq_some_iff.1 hr).1
              simpa using this
            rw [List.getElem?_replicate, if_pos hi'] at hr
            simp only [Option.some.injEq] at hr
            subst hr
            refine ⟨by rw [hce, List.length_map, c4], fun j c hcj => ?_⟩
            rw [List.getElem?_map] at hcj
            cases hq : d.zero[j]? with
            | none => rw [hq] at hcj; cases hcj
            | some x =>
              rw [hq] at hcj
              simp only [Option.map_some, Option.some.injEq] at hcj
              subst hcj
              obtain ⟨u, hu1, hu2⟩ := hconst j x hq
              have hjl : j < d.size := by rw [← c4]; exact (List.getElem?_eq_some_iff.1 hq).1
              have hlt : i' * d.size + j < n.toNat * i.size := by
                have hb : (i' + 1) * d.size ≤ n.toNat * d.size := Nat.mul_le_mul_right _ hi'
                rw [Nat.add_mul] at hb
                rw [his]
                omega
              refine ⟨u, ?_, ?_⟩
              · rw [hce]
                have hzsz : zv.cells.size = d.size := by rw [hzs, c4]
                simp only [madeCells, Array.getElem?_map, Array.getElem?_range, if_pos hlt, Option.map_some, hzsz]
                rw [show (i' * d.size + j) % d.size = j by rw [Nat.mul_comm, Nat.mul_add_mod]; exact Nat.mod_eq_of_lt hjl]
                rw [← hu1]
                have : j < zv.cells.size := by omega
                simp [this]
              · cases x <;> simp [VV.const?] at hu2 <;> (subst hu2; rfl))
        rw [hrl] at hf2
        have hle2 := hle_new (g := g) (H := s.H) (e := .root e (List.replicate n.toNat (d.zero.map zPT))) hY (g' := g.fresh s.nx (some w.heap.size) (.slice (some ⟨w.heap.size, 0, none⟩) n.toNat n.toNat)) (fun T hT => by simp [Gh.fresh, hT]) (fun T p hT => by simp [Gh.fresh, hT]) (fun T hT => rfl)
        have h2 := rel_step (n' := s.nx + 1) h hle2 hf2.1 (fun T hT => by
          obtain ⟨f1, f2⟩ := fresh_on (Nat.le_succ _) hT
          have : T ≠ s.nx := by omega
          simp [Gh.fresh, this, h.fresh T f1])
        obtain ⟨h3, h4, h5⟩ := putd_rel h2 (vrel_of_crel hf2.2) hx
        refine ⟨_, _, _, hr, h3, by rw [h4]; exact hle2, fun T hT => ?_⟩
        rw [h5] at hT
        have hT : s.nx ≤ T → s.nx + 1 ≤ T := hT
        have : T ≠ s.nx := by omega
        simp [Gh.fresh, this]
      · cases hx
    · cases hx
  · cases hx

theorem scal_ocell {H : Heap} {c : PT} {hh u hh' : Value} (hs : scal c = true) (hf : fcell c hh u) : ocell H g c hh' u ∧ u.oneCell' = true := by
  cases c <;> simp [scal] at hs <;> (have hf : u = _ := hf; subst hf; exact ⟨rfl, rfl⟩)
theorem plain_ocell {H : Heap} {c : PT} {hh u hh' : Value} (hs : plainCell c = true) (hf : ocell H g c hh u) : ocell H g c hh' u ∧ u.oneCell' = true := by
  cases c
  case list e rows => simp [plainCell] at hs
  case hole => simp [plainCell] at hs
  case ref T n => exact ⟨hf, hf.2.1⟩
  case int k n => have hf : u = _ := hf; subst hf; exact ⟨rfl, rfl⟩
  case bool k => have hf : u = _ := hf; subst hf; exact ⟨rfl, rfl⟩
  case str k => have hf : u = _ := hf; subst hf; exact ⟨rfl, rfl⟩
theorem scal_plain {c : PT} (hs : scal c = true) : ∀ e rows, c ≠ PT.list e rows := by
  cases c <;> simp [scal] at hs <;> intro e rows h <;> cases h
theorem plain_nolist {c : PT} (hs : plainCell c = true) : ∀ e rows, c ≠ PT.list e rows := by
  cases c <;> simp [plainCell] at hs <;> intro e rows h <;> cases h

theorem src_rel (h : Rel P E g s a w) {y : VV} {e : TypeId} {ns : List (List PT)} (hy : srcRows s y = some ns) (ht : srcTy s y e = true) {Y : Value} (hr : VRel P E s.H g y Y) :
    ∃ A c, Y = .slice A ns.length c ∧ Src P g s.H w e ns A ∧ (∀ r ∈ ns, ∀ c ∈ r, ∀ e rows, c ≠ PT.list e rows) := by
  unfold srcRows at hy
  split at hy
  · simp only [Option.some.injEq] at hy
    subst hy
    obtain rfl : Y = .slice none 0 0 := hr
    exact ⟨none, 0, rfl, .inl rfl, fun r hr => by simp at hr⟩
  · rename_i e' rows
    split at hy
    · rename_i hsc
      simp only [Option.some.injEq] at hy
      subst hy
      have he : e' = e := by simpa [srcTy] using ht
      subst he
      obtain ⟨fh, hfh, hnode⟩ := hr
      obtain ⟨A, cap, hv, hc1, hc2, hrows⟩ := hnode [] e' rows rfl
      rw [hfh] at hv
      have hall : ∀ r ∈ rows, ∀ c ∈ r, scal c = true := fun r hr c hc => List.all_eq_true.mp (List.all_eq_true.mp hsc r hr) c hc
      refine ⟨A, cap, hv, ?_, fun r hr c hc => scal_plain (hall r hr c hc)⟩
      rcases hrows with h0 | ⟨b, o, rfl, hrows⟩
      · exact .inl h0
      · refine .inr ⟨b, o, rfl, fun i r hr => ?_⟩
        obtain ⟨h1, h2⟩ := hrows i r hr
        refine ⟨h1, fun j c hc => ?_⟩
        obtain ⟨u, h3, h4⟩ := h2 j c hc
        have hs := hall r (List.mem_of_getElem? hr) c (List.mem_of_getElem? hc)
        exact ⟨u, rd_cell h.heap.frm h3, (scal_ocell (g := g) (H := s.H) (hh' := undef) hs h4).2, fun hh => (scal_ocell hs h4).1⟩
    · cases hy
  · rename_i T m
    split at hy
    · rename_i e' rows hroot
      split at hy
      · rename_i hc
        obtain ⟨hm, hpl⟩ := hc
        simp only [Option.some.injEq] at hy
        subst hy
        have he : e' = e := by simpa [srcTy, hroot] using ht
        subst he
        obtain ⟨_, _, hv⟩ := hr
        have hv := hv (by simp [hroot, Ent.isRoot])
        have hall : ∀ r ∈ rows.take m, ∀ c ∈ r, plainCell c = true := fun r hr c hc => List.all_eq_true.mp (List.all_eq_true.mp hpl r hr) c hc
        have hlen : (rows.take m).length = m := by simp; omega
        rw [hlen]
        rcases h.heap.node T e' rows hroot [] e' rows rfl with ⟨h1, h2⟩ | ⟨b, cap, cur, h1, h2, h3, h4, h5, h6, h7, h8⟩
        · subst h2
          have : m = 0 := by simpa using hm
          subst this
          rw [h1] at hv
          exact ⟨none, 0, hv, .inl rfl, fun r hr => by simp at hr⟩
        · rw [h1] at hv
          refine ⟨_, cap, hv, .inr ⟨b, 0, rfl, fun i r hr => ?_⟩, fun r hr c hc => plain_nolist (hall r hr c hc)⟩
          have hmem := List.mem_of_getElem? hr
          rw [List.getElem?_take] at hr
          split at hr
          · obtain ⟨g1, g2⟩ := h8 i r hr
            refine ⟨g1, fun j c hc => ?_⟩
            obtain ⟨u, g3, g4⟩ := g2 j c hc
            have hs := hall r hmem c (List.mem_of_getElem? hc)
            refine ⟨u, ?_, (plain_ocell (g := g) (H := s.H) (hh' := undef) hs g4).2, fun hh => (plain_ocell hs g4).1⟩
            rw [Nat.zero_add, cell_of_row w b _ cur e' (0, 0) h4]
            exact g3
          · cases hr
      · cases hy
    · cases hy
  · cases hy

theorem src_mono {H H' : Heap} {e : TypeId} {ns : List (List PT)} {A : Option Addr} (hle : HLe g H g' H') (h : Src P g H w e ns A) : Src P g' H' w e ns A := by
  rcases h with h | ⟨b, o, h1, h2⟩
  · exact .inl h
  · refine .inr ⟨b, o, h1, fun i r hr => ?_⟩
    obtain ⟨h3, h4⟩ := h2 i r hr
    refine ⟨h3, fun j c hc => ?_⟩
    obtain ⟨u, h5, h6, h7⟩ := h4 j c hc
    exact ⟨u, h5, h6, fun hh => ocell_mono hle (h7 hh)⟩

theorem does_append (hT : TyOK P ty) (h : Rel P E g s a w) {o : Oper} {c : Call} {x y : Operand} {t : TypeId} {s' : St} (ho : o.op = .call c) (hcal : c.callee = .builtin .append) (hargs : c.args.toList = [x, y]) (hts : c.argTypes.toList = [t, t])
    (hx : xAppend ty s t (retype ty t (ev s x)) (ev s y) o.dst = some s') : Does P E g s a w o s' := by
  have hxr := retype_rel (ty := ty) t (ev_rel h x)
  have hyr := ev_rel h y
  have e1 : c.args = #[x, y] := by rw [← Array.toList_inj]; exact hargs
  have e2 : c.argTypes = #[t, t] := by rw [← Array.toList_inj]; exact hts
  suffices hh : ∃ g' v w', (Builtin.append_ #[t, t] o.type #[a.eval x, a.eval y]).run P w = .ok v w' ∧ Rel P E g' s' (a.put o.dst v) w' ∧ HLe g s.H g' s'.H ∧ (∀ T, (s.nx ≤ T → s'.nx ≤ T) → g'.sn T = g.sn T) by
    obtain ⟨g', v, w', h1, h2, h3, h4⟩ := hh
    exact ⟨g', _, w', h2, h3, h4, .inl ⟨v, by simp [execOp, ho, resolve, hcal, e1, e2, invoke, builtin, h1], rfl⟩⟩
  generalize a.eval x = X at *
  generalize retype ty t (ev s x) = vx at *
  generalize a.eval y = Y at *
  generalize ev s y = vy at *
  unfold xAppend at hx
  split at hx
  · rename_i e _ _ _ ht
    have hu : P.underlying t = some (.slice e) := (hT t _ ht).desc
    split at hx
    · rename_i d ns hde hns
      split at hx
      · rename_i hc
        obtain ⟨c1, c2, c3⟩ := hc
        obtain ⟨A, cc, rfl, hsrc, hpl⟩ := src_rel h hns c3 hyr
        split at hx
        · split at hx
          · rename_i hb
            obtain ⟨hb1, hb2, hroom⟩ := hb
            have hY0 := fresh_at h hroom (Nat.le_refl _) (by omega)
            have hY1 := fresh_at h hroom (X := s.nx + 1) (by omega) (by omega)
            obtain rfl : X = .slice none 0 0 := hxr
            obtain ⟨k1, k2⟩ := hrel_nil h.heap hY0 e
            have hle := hle_new (g := g) (H := s.H) (e := .root e []) hY0 (g' := g.fresh s.nx none (.slice none 0 0)) (fun T hT => by simp [Gh.fresh, hT]) (fun T p hT => by simp [Gh.fresh, hT]) (fun T hT => rfl)
            obtain ⟨v', w', g', m1, m2, m3, m4, m5⟩ := append_rel (tr := o.type) (c := cc) hT k1 (Y := s.nx + 1) (by simp [Gh.fresh, hY1]) hu hde c1 c2 (updH_same _ _ _) (n := 0) (Nat.le_refl _) (src_mono hle hsrc) hpl (by simpa using hb1) (by simpa using hb2)
            have hcut : cutv 0 ((g.fresh s.nx none (.slice none 0 0)).hd s.nx []) = .slice none 0 0 := by simp [Gh.fresh, cutv]
            rw [hcut] at m1
            simp only [List.take_nil, List.nil_append, Nat.zero_add] at m1 m3 m4 m5
            have h2 := rel_step (n' := s.nx + 2) h (hle.trans m5) m3 (fun T hT => by
              obtain ⟨f1, f2⟩ := fresh_on (by omega) hT
              have n1 : T ≠ s.nx := by omega
              rw [m2 T (by omega)]
              simp [Gh.fresh, n1, h.fresh T f1])
            obtain ⟨h3, h4, h5⟩ := putd_rel h2 (vrel_of_crel m4) hx
            refine ⟨_, _, _, m1, h3, by rw [h4]; exact hle.trans m5, fun T hT => ?_⟩
            rw [h5] at hT
            have hT : s.nx ≤ T → s.nx + 2 ≤ T := hT
            have n1 : T ≠ s.nx := by omega
            rw [m2 T (by omega)]
            simp [Gh.fresh, n1]
          · cases hx
        · rename_i T n
          split at hx
          · rename_i e' rows hroot
            split at hx
            · rename_i hb
              obtain ⟨rfl, hb0, hb1, hb2, hroom⟩ := hb
              have hY := fresh_at h hroom (Nat.le_refl _) (by omega)
              obtain ⟨hTlt, _, hv⟩ := hxr
              have hv := hv (by simp [hroot, Ent.isRoot])
              subst hv
              obtain ⟨v', w', g', m1, m2, m3, m4, m5⟩ := append_rel (tr := o.type) (c := cc) hT h.heap hY hu hde c1 c2 hroot hb0 hsrc hpl hb1 hb2
              have h2 := rel_step (n' := s.nx + 1) h m5 m3 (fun X hX => by
                obtain ⟨f1, f2⟩ := fresh_on (Nat.le_succ _) hX
                rw [m2 X (by omega)]
                exact h.fresh X f1)
              obtain ⟨h3, h4, h5⟩ := putd_rel h2 (vrel_of_crel m4) hx
              refine ⟨_, _, _, m1, h3, by rw [h4]; exact m5, fun X hX => ?_⟩
              rw [h5] at hX
              have hX : s.nx ≤ X → s.nx + 1 ≤ X := hX
              exact m2 X (by omega)
            · cases hx
          · cases hx
        · cases hx
      · cases hx
    · cases hx
  · cases hx

theorem does_exec (hT : TyOK P ty) (h : Rel P E g s a w) {o : Oper} {s' : St} (hx : vexec ty s o = some s') : Does P E g s a w o s' := by
  have hval : ∀ {s'}, (vval ty s o).bind (s.putd o.dst) = some s' → Does P E g s a w o s' := by
    intro s' hb
    cases hv : vval ty s o with
    | none => rw [hv] at hb; cases hb
    | some x => rw [hv] at hb; exact does_val hT h (gives_val hT h hv) hb
  unfold vexec at hx
  split at hx
  · rename_i t ho
    split at hx
    · rename_i d hd
      have hz : d.zero ≠ [] := by
        intro h0
        simp [xBox, h0] at hx
      obtain ⟨zv, hzr, hzl, _⟩ := zero_rel (P := P) (E := E) (H := s.H) (g := g) (w := w) hT hd hz
      refine does_box (e := t) h hx hzl ?_
      simp [execOp, ho, Instr.alloc, hzr, newVar, newRow]
    · cases hx
  · rename_i t x ho
    split at hx
    · rename_i vs hvs
      refine does_box (e := t) h hx (cells_rel hvs (ev_rel h x)) ?_
      simp [execOp, ho, Instr.box, newVar, newRow]
    · cases hx
  · rename_i t x y ho
    split at hx
    · rename_i hdst
      exact does_store hT h ho hdst hx
    · cases hx
  · rename_i t parts ho
    cases hv : vBuild ty t (evParts ty s t parts) with
    | none => rw [hv] at hx; cases hx
    | some x => rw [hv] at hx; exact does_val hT h (gives_build hT h ho hv) hx
  · rename_i ho
    exact does_buildSlice hT h ho hx
  · rename_i ho
    exact does_make hT h ho hx
  · rename_i c ho
    split at hx
    · rename_i hcal
      split at hx
      · rename_i x y t t' hargs hts
        split at hx
        · rename_i htt
          subst htt
          exact does_append hT h ho hcal hargs hts hx
        · cases hx
      · cases hx
    · exact hval hx
  · exact hval hx
end
end Go.Proofs.Ytclljpdcpcolpaa
