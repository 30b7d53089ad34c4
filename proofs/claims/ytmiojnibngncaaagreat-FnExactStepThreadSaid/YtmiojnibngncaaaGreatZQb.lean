/- What the claim rests on, part 2: the value-level engine and contracts of functions; no condition. -/
import Derived.Test.YtmiojnibngncaaaGreatZQa
import Derived.LoopN
import Derived.Conc.Own4
import Derived.Orders
namespace Go.Proofs.YtmiojnibngncaaaGreat
open Go Go.RowKit
set_option linter.unusedVariables false
set_option linter.unusedSimpArgs false
inductive PT.Pur : PT → Prop
  | int (k n) : PT.Pur (.int k n)
  | bool (b) : PT.Pur (.bool b)
  | str (s) : PT.Pur (.str s)
  | list (e rows) : (∀ r ∈ rows, ∀ c ∈ r, PT.Pur c) → PT.Pur (.list e rows)
def Qbb (rows : List (List PT)) : Prop := ∀ r ∈ rows, ∀ c ∈ r, PT.Pur c
theorem Qik : ∀ (p : Qk6) (c : PT), PT.Pur c → ∀ e rows, At p c = some (e, rows) → Qbb rows
  | [], c, h, e, rows, ha => by
    cases c <;> simp [At] at ha
    obtain ⟨rfl, rfl⟩ := ha
    cases h with
    | list _ _ h => exact h
  | (i, j) :: p, c, h, e, rows, ha => by
    cases c with
    | list e0 rows0 =>
      simp only [At] at ha
      cases h with
      | list _ _ h =>
        cases hr : rows0[i]? with
        | none => rw [hr] at ha; simp at ha
        | some r =>
          rw [hr] at ha
          simp only [Option.getD_some] at ha
          cases hc : r[j]? with
          | none => rw [hc] at ha; simp at ha
          | some c' =>
            rw [hc] at ha
            simp only [Option.bind_some] at ha
            exact Qik p c' (h r (List.mem_of_getElem? hr) c' (List.mem_of_getElem? hc)) e rows ha
    | _ => simp [At] at ha
def VV.pt (H : Qbi) : VV → PT
  | .int k n => .int k n
  | .bool b => .bool b
  | .str s => .str s
  | .nl e => .list e []
  | .fr e rows => .list e rows
  | .rf T n => match H T with
    | .root e rows => .list e (rows.take n)
    | _ => .hole
  | _ => .hole
def Qwq (H : Qbi) : VV → Prop
  | .int .. | .bool _ | .str _ | .nl _ | .fr .. => True
  | .rf T n => match H T with
    | .root _ rows => n ≤ rows.length ∧ Qbb rows
    | _ => False
  | _ => False
def Qgd (H : Qbi) (T j : Nat) : VV := match H T with
  | .box cs => .fp ((cs.drop j).map (VV.pt H))
  | _ => .any
def Xap (H : Qbi) (T j n : Nat) (e : TypeId) : VV := match H T with
  | .box cs => .fr e (((cs.drop j).take n).map fun c => [VV.pt (fun _ => .dead) c])
  | _ => .any
def oneS : VV → Bool
  | .int .. | .bool _ | .str _ => true
  | _ => false
def Qwg (H : Qbi) : VV → VV
  | .bp T j => Qgd H T j
  | x => x
def Qjo (H : Qbi) : VV → Prop
  | .bp T j => match H T with
    | .box cs => ∀ x ∈ cs.drop j, Qwq H x
    | _ => False
  | .fp _ => True
  | _ => False
def Qlk (H : Qbi) : VV → VV
  | .nl e => .fr e []
  | .rf T n => match H T with
    | .root e rows => .fr e (rows.take n)
    | _ => .any
  | .bp T j => Qgd H T j
  | .bs T j n e => Xap H T j n e
  | .clo f caps => .clo f (caps.map (Qwg H))
  | x => x
def Qnd (H : Qbi) : VV → VV
  | .agg vs => .agg (vs.map (Qlk H))
  | x => Qlk H x
def Qdm (H : Qbi) : VV → Prop
  | .rf T n => match H T with
    | .root e rows => n ≤ rows.length ∧ Qbb rows
    | _ => False
  | .bp T j => match H T with
    | .box cs => ∀ x ∈ cs.drop j, Qwq H x
    | _ => False
  | .bs T j n _ => match H T with
    | .box cs => j + n ≤ cs.length ∧ ∀ x ∈ (cs.drop j).take n, oneS x = true
    | _ => False
  | .clo _ caps => ∀ c ∈ caps, Qjo H c
  | .np .. | .agg _ | .tup _ => False
  | _ => True
def Qgm (H : Qbi) : VV → Prop
  | .agg vs => ∀ x ∈ vs, Qdm H x
  | x => Qdm H x
def Hp (l : List (TypeId × List (List PT))) : Qbi := fun T => match l[T]? with
  | some (e, rows) => .root e rows
  | none => .dead
def Gh.nil : Gh := ⟨fun _ _ => undef, fun _ => (0, 0), fun _ => none, fun _ _ => none, fun _ => false⟩
def Qoy : VV → Bool
  | .int _ _ | .bool _ | .str _ | .rf _ _ | .err _ | .any => true
  | _ => false
def Qsf : VV → Bool
  | .agg vs => vs.all Qoy
  | x => Qoy x
def Qys : VV → Bool
  | .tup vs => vs.all Qsf
  | x => Qsf x
def shC (k : Nat) : VV → VV
  | .rf T n => .rf (k + T) n
  | x => x
def shA (k : Nat) : VV → VV
  | .agg vs => .agg (vs.map (shC k))
  | x => shC k x
def shV (k : Nat) : VV → VV
  | .tup vs => .tup (vs.map (shA k))
  | x => shA k x
def Qcv (w : World) : Env := ⟨w, fun _ _ => False, fun _ _ => True, fun _ _ _ _ _ _ => trivial⟩
structure SatP (P : Program) (f : FuncId) (args : List VV) (v : VV) (l : List (TypeId × List (List PT))) : Prop where
  fn : ∃ fn, P.funcs[f]? = some fn ∧ (fn.name == "runtime.NumGoroutine") = false ∧ fn.body.isNone = false
  out : Qys v = true
  pur : ∀ x ∈ l, Qbb x.2
  run : ∀ (w : World) (vals : List Value), vals.length = args.length → (∀ (j : Nat) (x : VV) (u : Value), args[j]? = some x → vals[j]? = some u → Qju P (Qcv w) (fun _ => .dead) Gh.nil x u) →
    Calls P f vals.toArray w fun e w' => ∃ val g', e = .returned val ∧ HRel P (Qcv w) g' (Hp l) w' ∧ (∀ T, l.length ≤ T → g'.sn T = false) ∧ Qds P (Qcv w) (Hp l) g' v val
section
variable {P : Program} {E : Env} {g g' : Gh} {H : Qbi} {s : St} {a : Act} {w w' : World} {ty : Ty}
theorem Qe5 {b o : Nat} {cur : Array Value} {e : TypeId} {fz : Nat × Nat} {u : Value} (h : w.heap[b]? = some (.cells cur e fz)) (hu : cur[o]? = some u) : w.cell? ⟨b, o, none⟩ = some u := by
  simp [World.cell?, h, hu]
theorem Qp8 (h : Frm (Qcv w) w') {b : Nat} (hb : b < w.heap.size) : w'.heap[b]? = w.heap[b]? := by
  cases hx : w.heap[b]? with
  | none => rw [Array.getElem?_eq_none_iff] at hx; omega
  | some x =>
    by_cases hc : ∃ c e fz, x = Obj.cells c e fz
    · obtain ⟨c, e, fz, rfl⟩ := hc
      obtain ⟨c', h1, h2, h3⟩ := h.cells b c e fz hx
      have : c' = c := by
        apply Array.ext_getElem?
        intro i
        exact h3 i (fun h => h)
      rw [h1, this]
    · exact h.other b x hx (fun c e fz hh => hc ⟨c, e, fz, hh⟩)
theorem Qqm {x : PT} {v : Value} (hf : Frm E w) (h : Rd P E x v) : Rd P (Qcv w) x v := by
  cases x <;> try exact h
  case list e rows =>
    obtain ⟨fh, h0, h1⟩ := h
    refine ⟨fh, h0, fun p e' rows' hp => ?_⟩
    obtain ⟨A, cap, h2, h3, h4, h5⟩ := h1 p e' rows' hp
    refine ⟨A, cap, h2, h3, h4, ?_⟩
    rcases h5 with h5 | ⟨b, o, h5, h6⟩
    · exact .inl h5
    · refine .inr ⟨b, o, h5, fun i r hr => ?_⟩
      obtain ⟨h7, h8⟩ := h6 i r hr
      refine ⟨h7, fun j c hc => ?_⟩
      obtain ⟨u, h9, h10⟩ := h8 j c hc
      have h11 := Qj3 hf h9
      refine ⟨u, ⟨?_, fun h => h, h11⟩, h10⟩
      have : b < E.w0.heap.size := h9.1
      exact Nat.lt_of_lt_of_le this hf.size
theorem Qig {c : PT} {hh u : Value} (hc : c.Pur) (h : Qhb H g c hh u) : Qxv c hh u := by
  cases hc <;> exact h
theorem Qvi (h : HRel P E g H w) {T : Nat} {e : TypeId} {rows : List (List PT)} (hT : H T = .root e rows) (hp : Qbb rows) {n : Nat} (hn : n ≤ rows.length) : Rd P (Qcv w) (.list e (rows.take n)) (Qib n (g.hd T [])) := by
  have node : ∀ p e' rows', At p (.list e rows) = some (e', rows') → ∀ m, m ≤ rows'.length → Qow P (Qcv w) e' (rows'.take m) (fun i j => g.hd T (p ++ [(i, j)])) (Qib m (g.hd T p)) := by
    intro p e' rows' hat m hm
    have hpur : Qbb rows' := Qik p (.list e rows) (.list _ _ hp) e' rows' hat
    have hlen : (rows'.take m).length = m := by simp; omega
    rcases h.node T e rows hT p e' rows' hat with ⟨h1, h2⟩ | ⟨b, cap, cur, h1, h2, h3, h4, h5, h6, h7, h8⟩
    · subst h2
      simp at hm
      subst hm
      exact ⟨none, 0, by rw [h1]; rfl, by simp, by simp [maxLen], .inl (by simp)⟩
    · refine ⟨_, cap, by rw [h1, hlen]; rfl, by rw [hlen]; omega, h6, .inr ⟨b, 0, rfl, fun i r hr => ?_⟩⟩
      rw [List.getElem?_take] at hr
      split at hr
      · obtain ⟨h9, h10⟩ := h8 i r hr
        refine ⟨h9, fun j c hc => ?_⟩
        obtain ⟨u, h11, h12⟩ := h10 j c hc
        refine ⟨u, ⟨(Array.getElem?_eq_some_iff.1 h4).1, fun h => h, ?_⟩, Qig (hpur r (List.mem_of_getElem? hr) c (List.mem_of_getElem? hc)) h12⟩
        rw [Nat.zero_add]
        exact Qe5 h4 h11
      · cases hr
  refine ⟨fun p => if p = [] then Qib n (g.hd T []) else g.hd T p, by simp, fun p e' rows' hat => ?_⟩
  cases p with
  | nil =>
    simp only [At, Option.some.injEq, Prod.mk.injEq] at hat
    obtain ⟨rfl, rfl⟩ := hat
    have := node [] e rows rfl n hn
    simpa using this
  | cons x q =>
    obtain ⟨i, j⟩ := x
    have hat' : At ((i, j) :: q) (.list e rows) = some (e', rows') := by
      simp only [At] at hat ⊢
      rw [List.getElem?_take] at hat
      split at hat
      · exact hat
      · simp at hat
    have h1 := node _ e' rows' hat' rows'.length (Nat.le_refl _)
    rw [List.take_length] at h1
    have h2 : Qib rows'.length (g.hd T ((i, j) :: q)) = g.hd T ((i, j) :: q) := by
      rcases h.node T e rows hT _ e' rows' hat' with ⟨h1, h2⟩ | ⟨b, cap, cur, h1, _⟩
      · rw [h1, h2]; rfl
      · rw [h1]; rfl
    rw [h2] at h1
    simpa using h1
theorem Xcv {e : TypeId} {E : Env} : Rd P E (.list e []) (.slice none 0 0) := by
  refine ⟨fun _ => .slice none 0 0, rfl, fun p e' rows' hp => ?_⟩
  cases p with
  | nil =>
    simp only [At, Option.some.injEq, Prod.mk.injEq] at hp
    obtain ⟨rfl, rfl⟩ := hp
    exact ⟨none, 0, rfl, by simp, by simp [maxLen], .inl rfl⟩
  | cons x q => obtain ⟨i, j⟩ := x; simp [At] at hp
theorem Xhk (h : HRel P E g H w) {x : VV} {u : Value} (hx : Qea P E H g x u) (hok : Qwq H x) : Rd P (Qcv w) (x.pt H) u := by
  cases x with
  | nl e => have hx : u = .slice none 0 0 := hx; subst hx; exact Xcv
  | fr e rows => exact Qqm (x := .list e rows) h.frm hx
  | rf T n =>
    simp only [Qwq] at hok
    split at hok
    · rename_i e rows hT
      obtain ⟨h1, h2⟩ := hok
      obtain ⟨_, _, hv⟩ := hx
      have hv := hv (by simp [hT, Ent.isRoot])
      simp only [VV.pt, hT]
      rw [hv]
      exact Qvi h hT h2 h1
    · exact hok.elim
  | int => exact hx
  | bool => exact hx
  | str => exact hx
  | _ => exact hok.elim
theorem Qwa (hf : Frm E w) {row : List PT} {v : Value} (hx : Qie P E H g (.fp row) v) {H' : Qbi} {g' : Gh} : Qie P (Qcv w) H' g' (.fp row) v := by
  obtain ⟨b, o, h1, h2⟩ := hx
  refine ⟨b, o, h1, fun j c hc => ?_⟩
  obtain ⟨u, h3, h4⟩ := h2 j c hc
  exact ⟨u, ⟨Nat.lt_of_lt_of_le h3.1 hf.size, fun h => h, Qj3 hf h3⟩, Qqm hf h4⟩
theorem Qq5 (h : HRel P E g H w) {T j : Nat} {v : Value} (hx : Qie P E H g (.bp T j) v) (hok : Qjo H (.bp T j)) {H' : Qbi} {g' : Gh} : Qie P (Qcv w) H' g' (Qgd H T j) v := by
  simp only [Qjo] at hok
  split at hok
  · rename_i cs hT
    obtain ⟨_, _, hv⟩ := hx
    have hv := hv (by simp [hT, Ent.live])
    obtain ⟨cur, e, hw, _, hc⟩ := h.box T cs hT
    simp only [Qgd, hT]
    refine ⟨_, _, hv, fun k c hk => ?_⟩
    simp only [List.getElem?_map, List.getElem?_drop, Option.map_eq_some_iff] at hk
    obtain ⟨x, hx, rfl⟩ := hk
    obtain ⟨_, _, u, hu, hr⟩ := hc (j + k) x hx
    refine ⟨u, ⟨(Array.getElem?_eq_some_iff.1 hw).1, fun h => h, ?_⟩, Xhk h hr (hok x (List.mem_of_getElem? (i := k) (by rw [List.getElem?_drop]; exact hx)))⟩
    have := Qe5 hw hu
    rw [Nat.add_assoc]
    exact this
  · exact hok.elim
theorem Xfn {E : Env} {H : Qbi} {g : Gh} {x : VV} {u : Value} (h : oneS x = true) (hx : Qea P E H g x u) (f : Value) : Qxv (VV.pt (fun _ => .dead) x) f u := by
  cases x <;> first | exact hx | cases h
theorem Qv4 {E2 : Env} (h : HRel P E g H w) {T j n : Nat} {e : TypeId} {v : Value} (hx : Qea P E H g (.bs T j n e) v) (hok : Qdm H (.bs T j n e))
    (hrd : ∀ cs, H T = .box cs → ∀ k u, k < cs.length → w.cell? ⟨(g.bx T).1, (g.bx T).2 + k, none⟩ = some u → E2.rd (g.bx T).1 ((g.bx T).2 + k) u) {H' : Qbi} {g' : Gh} : Qea P E2 H' g' (Xap H T j n e) v := by
  obtain ⟨_, _, ⟨h1, h2⟩, hv⟩ := hx
  simp only [Qdm] at hok
  split at hok
  · rename_i cs hT
    obtain ⟨h3, h4⟩ := hok
    have hv := hv (by simp [hT, Ent.live])
    obtain ⟨cur, e0, hw, _, hc⟩ := h.box T cs hT
    simp only [Xap, hT]
    have hlen : (((cs.drop j).take n).map fun c => [VV.pt (fun _ => .dead) c]).length = n := by simp; omega
    refine ⟨fun _ => v, rfl, fun p e' rows' hp => ?_⟩
    have hcell : ∀ (i : Nat) (r : List PT), (((cs.drop j).take n).map fun c => [VV.pt (fun _ => .dead) c])[i]? = some r → ∃ x, cs[j + i]? = some x ∧ r = [VV.pt (fun _ => .dead) x] ∧ oneS x = true := fun i r hr => by
      simp only [List.getElem?_map, Option.map_eq_some_iff] at hr
      obtain ⟨x, hx, rfl⟩ := hr
      have hm := h4 x (List.mem_of_getElem? hx)
      rw [List.getElem?_take] at hx
      split at hx
      · rw [List.getElem?_drop] at hx; exact ⟨x, hx, rfl, hm⟩
      · cases hx
    cases p with
    | nil =>
      simp only [At, Option.some.injEq, Prod.mk.injEq] at hp
      obtain ⟨rfl, rfl⟩ := hp
      refine ⟨_, n, by rw [hlen]; exact hv, by rw [hlen]; exact Nat.le_refl _, h2, .inr ⟨_, _, rfl, fun i r hr => ?_⟩⟩
      obtain ⟨x, hx, rfl, hm⟩ := hcell i r hr
      refine ⟨by simp [h1], fun k c hk => ?_⟩
      match k with
      | 0 =>
        simp only [List.getElem?_cons_zero, Option.some.injEq] at hk
        subst hk
        obtain ⟨_, _, u, hu, hr⟩ := hc (j + i) x hx
        refine ⟨u, ?_, Xfn hm hr _⟩
        rw [h1, Nat.mul_one, Nat.add_zero, Nat.add_assoc]
        exact hrd cs hT _ u (List.getElem?_eq_some_iff.1 hx).1 (Qe5 hw hu)
      | k + 1 => simp at hk
    | cons ij q =>
      obtain ⟨i, k⟩ := ij
      exfalso
      simp only [At] at hp
      cases hr : (((cs.drop j).take n).map fun c => [VV.pt (fun _ => .dead) c])[i]? with
      | none => rw [hr] at hp; simp at hp
      | some r =>
        obtain ⟨x, hx, rfl, hm⟩ := hcell i r hr
        rw [hr] at hp
        match k with
        | 0 =>
          simp only [Option.getD_some, List.getElem?_cons_zero, Option.bind_some] at hp
          cases x <;> first | (cases q with | nil => simp [VV.pt, At] at hp | cons a b => simp [VV.pt, At] at hp) | cases hm
        | k + 1 => simp at hp
  · exact hok.elim
theorem Qvr (h : HRel P E g H w) {x : VV} {u : Value} (hx : Qea P E H g x u) (hok : Qdm H x) : Qea P (Qcv w) (fun _ => .dead) Gh.nil (Qlk H x) u := by
  cases x with
  | nl e =>
    have hx : u = .slice none 0 0 := hx
    subst hx
    exact Xcv
  | rf T n =>
    simp only [Qdm] at hok
    split at hok
    · rename_i e rows hT
      obtain ⟨h1, h2⟩ := hok
      obtain ⟨_, _, hv⟩ := hx
      have hv := hv (by simp [hT, Ent.isRoot])
      simp only [Qlk, hT]
      rw [hv]
      exact Qvi h hT h2 h1
    · exact hok.elim
  | fr e rows => exact Qqm (x := .list e rows) h.frm hx
  | clo f caps =>
    obtain ⟨cs, h1, h2, h3⟩ := hx
    refine ⟨cs, h1, by simpa using h2, fun j c u hc hu => ?_⟩
    simp only [List.getElem?_map, Option.map_eq_some_iff] at hc
    obtain ⟨c0, hc0, rfl⟩ := hc
    have hr := h3 j c0 u hc0 hu
    have ho := hok c0 (List.mem_of_getElem? hc0)
    cases c0 <;> try exact ho.elim
    case bp T j => exact Qq5 h hr ho
    case fp row => exact Qwa h.frm hr
  | bp T j =>
    have := Qq5 (H' := fun _ => .dead) (g' := Gh.nil) h (T := T) (j := j) hx hok
    simp only [Qlk, Qgd] at this ⊢
    split at this
    · exact this
    · exact this.elim
  | fp row => exact Qwa h.frm (g := g) (H := H) (H' := fun _ => .dead) (g' := Gh.nil) hx
  | bs T j n e =>
    refine Qv4 h hx hok fun cs hT k u hk hu => ?_
    obtain ⟨x, hx⟩ : ∃ x, cs[k]? = some x := ⟨_, List.getElem?_eq_getElem hk⟩
    obtain ⟨cur, e0, hw, _, _⟩ := h.box T cs hT
    exact ⟨(Array.getElem?_eq_some_iff.1 hw).1, fun h => h, hu⟩
  | np => exact hok.elim
  | agg => exact hok.elim
  | tup => exact hok.elim
  | _ => exact hx
theorem Xfq (h : HRel P E g H w) {x : VV} {u : Value} (hx : Qds P E H g x u) (hok : Qgm H x) : Qju P (Qcv w) (fun _ => .dead) Gh.nil (Qnd H x) u := by
  by_cases ha : ∃ vs, x = .agg vs
  · obtain ⟨vs, rfl⟩ := ha
    obtain ⟨cs, h1, h2, h3⟩ := hx
    refine ⟨cs, h1, by simpa using h2, fun j c u hc hu => ?_⟩
    simp only [List.getElem?_map, Option.map_eq_some_iff] at hc
    obtain ⟨c0, hc0, rfl⟩ := hc
    exact Qvr h (h3 j c0 u hc0 hu) (hok c0 (List.mem_of_getElem? hc0))
  · have hne : ∀ vs, x ≠ .agg vs := fun vs hh => ha ⟨vs, hh⟩
    have hnt : ∀ vs, x ≠ .tup vs := fun vs hh => by subst hh; exact hok
    rw [Qf4 hnt, Qhd hne] at hx
    have h1 : Qnd H x = Qlk H x := by cases x <;> first | rfl | exact absurd rfl (hne _)
    have h2 : Qdm H x := by cases x <;> first | exact hok | exact absurd rfl (hne _)
    rw [h1]
    exact Qdc (Qvr h hx h2)
def Qs3 (n : Nat) (l : List (TypeId × List (List PT))) (H : Qbi) : Qbi :=
  match l with
  | [] => H
  | (e, rows) :: l => Qs3 (n + 1) l (Qbd n (.root e rows) H)
theorem Qhv : ∀ (l : List (TypeId × List (List PT))) (n : Nat) (H : Qbi) (T : Nat), Qs3 n l H T = if n ≤ T ∧ T < n + l.length then Hp l (T - n) else H T
  | [], n, H, T => by simp [Qs3]; omega
  | (e, rows) :: l, n, H, T => by
    simp only [Qs3]
    rw [Qhv l (n + 1) (Qbd n (.root e rows) H) T]
    by_cases h1 : T = n
    · subst h1
      rw [if_neg (by omega), if_pos (by simp), Qa7]
      simp [Hp]
    · rw [Qa9 _ _ h1]
      by_cases h2 : n ≤ T ∧ T < n + (l.length + 1)
      · rw [if_pos (by omega), if_pos (by simpa using h2)]
        obtain ⟨k, rfl⟩ : ∃ k, T = n + 1 + k := ⟨T - (n + 1), by omega⟩
        rw [show n + 1 + k - (n + 1) = k by omega, show n + 1 + k - n = k + 1 by omega]
        simp [Hp]
      · rw [if_neg (by omega), if_neg (by simpa using h2)]
def Gh.imp (g g' : Gh) (n k sz : Nat) : Gh :=
  { hd := fun T p => if n ≤ T ∧ T < n + k then g'.hd (T - n) p else g.hd T p
    bx := g.bx
    own := fun b => if b < sz then g.own b else (g'.own b).map fun x => (n + x.1, x.2)
    ob := g.ob
    sn := fun T => if n ≤ T ∧ T < n + k then g'.sn (T - n) else g.sn T }
theorem Qvm {l : List (TypeId × List (List PT))} {n sz : Nat} (hk : ∀ T, l.length ≤ T → g'.sn T = false) {x : VV} {v : Value} {E' : Env} (ho : Qoy x = true) (h : Qea P E' (Hp l) g' x v) :
    Qea P E (Qs3 n l H) (g.imp g' n l.length sz) (shC n x) v := by
  cases x <;> first | exact h | (simp [Qoy] at ho; done) | skip
  case rf T m =>
    obtain ⟨h1, h2, h3⟩ := h
    have hlt : T < l.length := by
      rcases Nat.lt_or_ge T l.length with hh | hh
      · exact hh
      · rw [hk T hh] at h1; cases h1
    have hc : n ≤ n + T ∧ n + T < n + l.length := by omega
    refine ⟨by simp only [Gh.imp, if_pos hc, Nat.add_sub_cancel_left]; exact h1, h2, fun hr => ?_⟩
    rw [Qhv, if_pos hc, Nat.add_sub_cancel_left] at hr
    have := h3 hr
    simp only [Gh.imp, if_pos hc, Nat.add_sub_cancel_left]
    exact this
theorem Qta {x : VV} (h : Qsf x = true) : (∃ vs, x = .agg vs ∧ ∀ c ∈ vs, Qoy c = true) ∨ ((∀ vs, x ≠ .agg vs) ∧ Qoy x = true) := by
  cases x with
  | agg vs => exact .inl ⟨vs, rfl, by simpa [Qsf] using h⟩
  | _ => exact .inr ⟨fun _ hh => (by cases hh), h⟩
theorem Qwp {l : List (TypeId × List (List PT))} {n sz : Nat} (hk : ∀ T, l.length ≤ T → g'.sn T = false) {x : VV} {v : Value} {E' : Env} (ho : Qsf x = true) (h : Qju P E' (Hp l) g' x v) :
    Qju P E (Qs3 n l H) (g.imp g' n l.length sz) (shA n x) v := by
  rcases Qta ho with ⟨vs, rfl, hvs⟩ | ⟨hne, hoc⟩
  · obtain ⟨cs, h1, h2, h3⟩ := h
    refine ⟨cs, h1, by simpa using h2, fun j c u hc hu => ?_⟩
    simp only [List.getElem?_map, Option.map_eq_some_iff] at hc
    obtain ⟨c0, hc0, rfl⟩ := hc
    exact Qvm hk (hvs c0 (List.mem_of_getElem? hc0)) (h3 j c0 u hc0 hu)
  · rw [Qhd hne] at h
    have : shA n x = shC n x := by cases x <;> first | rfl | exact absurd rfl (hne _)
    rw [this]
    exact Qdc (Qvm hk hoc h)
theorem Xc8 {l : List (TypeId × List (List PT))} {n sz : Nat} (hk : ∀ T, l.length ≤ T → g'.sn T = false) {x : VV} {v : Value} {E' : Env} (ho : Qys x = true) (h : Qds P E' (Hp l) g' x v) :
    Qds P E (Qs3 n l H) (g.imp g' n l.length sz) (shV n x) v := by
  by_cases ht : ∃ vs, x = .tup vs
  · obtain ⟨vs, rfl⟩ := ht
    obtain ⟨cs, h1, h2, h3⟩ := h
    refine ⟨cs, h1, by simpa using h2, fun j c u hc hu => ?_⟩
    simp only [List.getElem?_map, Option.map_eq_some_iff] at hc
    obtain ⟨c0, hc0, rfl⟩ := hc
    have ho' : Qsf c0 = true := by
      simp only [Qys, List.all_eq_true] at ho
      exact ho c0 (List.mem_of_getElem? hc0)
    exact Qwp hk ho' (h3 j c0 u hc0 hu)
  · have hne : ∀ vs, x ≠ .tup vs := fun vs hh => ht ⟨vs, hh⟩
    rw [Qf4 hne] at h
    have h1 : shV n x = shA n x := by cases x <;> first | rfl | exact absurd rfl (hne _)
    have h2 : Qsf x = true := by cases x <;> first | exact ho | exact absurd rfl (hne _)
    rw [h1]
    exact Qdd (Qwp hk h2 h)
theorem Qug (h : HRel P E g H w) {l : List (TypeId × List (List PT))} {n : Nat} (hn : ∀ T, n ≤ T → T < n + l.length → g.sn T = false)
    (h' : HRel P (Qcv w) g' (Hp l) w') (hp : ∀ x ∈ l, Qbb x.2) :
    HRel P E (g.imp g' n l.length w.heap.size) (Qs3 n l H) w' ∧ HLe g H (g.imp g' n l.length w.heap.size) (Qs3 n l H) := by
  have hsn : ∀ T, g.sn T = true → ¬ (n ≤ T ∧ T < n + l.length) := fun T hT hh => by rw [hn T hh.1 hh.2] at hT; cases hT
  have hle : HLe g H (g.imp g' n l.length w.heap.size) (Qs3 n l H) := by
    refine ⟨fun T hT => ?_, fun T e rows hT hh => ?_, fun T hT hh => ?_, fun T hT _ => ?_, fun T hT _ => rfl⟩
    · simp only [Gh.imp, if_neg (hsn T hT)]; exact hT
    · rw [Qhv, if_neg (hsn T hT)] at hh; exact ⟨rows, hh⟩
    · rwa [Qhv, if_neg (hsn T hT)] at hh
    · simp only [Gh.imp, if_neg (hsn T hT)]
  have hfr : Frm E w' := h.frm.step h'.frm.os h'.frm.tape h'.frm.output h'.frm.size fun b hb => .inl (Qp8 h'.frm (Nat.lt_of_lt_of_le hb h.frm.size))
  refine ⟨⟨hfr, fun T e rows hT p e2 rows2 hat => ?_, fun T cs hT => ?_, fun T hT => ?_⟩, hle⟩
  · rw [Qhv] at hT
    by_cases c : n ≤ T ∧ T < n + l.length
    · rw [if_pos c] at hT
      have hpur : Qbb rows := by
        simp only [Hp] at hT
        split at hT
        · rename_i e0 rows0 hl
          injection hT with e1 e2
          subst e2
          exact hp _ (List.mem_of_getElem? hl)
        · cases hT
      have hpur2 : Qbb rows2 := Qik p (.list e rows) (.list _ _ hpur) e2 rows2 hat
      have hhd : ∀ q, (g.imp g' n l.length w.heap.size).hd T q = g'.hd (T - n) q := fun q => by simp only [Gh.imp, if_pos c]
      rcases h'.node (T - n) e rows hT p e2 rows2 hat with ⟨h1, h2⟩ | ⟨b, cap, cur, h1, h2, h3, h4, h5, h6, h7, h8⟩
      · exact .inl ⟨by rw [hhd]; exact h1, h2⟩
      · have hb : w.heap.size ≤ b := by
          rcases h3 with h3 | h3
          · exact h3
          · exact (h3 0).elim
        refine .inr ⟨b, cap, cur, by rw [hhd]; exact h1, ?_, .inl (Nat.le_trans h.frm.size hb), h4, h5, h6, h7, fun i r hr => ?_⟩
        · simp only [Gh.imp, if_neg (Nat.not_lt.2 hb), h2, Option.map_some]
          rw [Nat.add_sub_cancel' c.1]
        · obtain ⟨h9, h10⟩ := h8 i r hr
          refine ⟨h9, fun j x hx => ?_⟩
          obtain ⟨u, h11, h12⟩ := h10 j x hx
          refine ⟨u, h11, ?_⟩
          rw [hhd]
          have := hpur2 r (List.mem_of_getElem? hr) x (List.mem_of_getElem? hx)
          cases this <;> exact h12
    · rw [if_neg c] at hT
      refine Qc0 hle (h.node T e rows hT p e2 rows2 hat) (fun q => by simp only [Gh.imp, if_neg c]) (fun b hb ho => ?_) (fun b hb _ => Qp8 h'.frm hb)
      simp only [Gh.imp, if_pos hb]; exact ho
  · rw [Qhv] at hT
    by_cases c : n ≤ T ∧ T < n + l.length
    · rw [if_pos c] at hT
      simp only [Hp] at hT
      split at hT <;> cases hT
    · rw [if_neg c] at hT
      have hb := h.box T cs hT
      have hlt : (g.bx T).1 < w.heap.size := by
        obtain ⟨cur, e1, h1, _⟩ := hb
        exact (Array.getElem?_eq_some_iff.1 h1).1
      exact Qd7 hle hb rfl (fun hh => by simp only [Gh.imp, if_pos hlt]; exact hh) (fun _ _ hh => hh) (fun cur e he => ⟨cur, by rw [Qp8 h'.frm hlt]; exact he, fun _ _ _ => rfl⟩)
  · rw [Qhv] at hT
    by_cases c : n ≤ T ∧ T < n + l.length
    · rw [if_pos c] at hT
      simp only [Gh.imp, if_pos c]
      exact h'.seen _ hT
    · rw [if_neg c] at hT
      simp only [Gh.imp, if_neg c]
      exact h.seen T hT
def St.imp (s : St) (l : List (TypeId × List (List PT))) : St := { s with H := Qs3 s.nx l s.H, nx := s.nx + l.length }
theorem Qxn (h : Rel P E g s a w) {l : List (TypeId × List (List PT))} (hr : s.room l.length = true) (h' : HRel P (Qcv w) g' (Hp l) w') (hk : ∀ T, l.length ≤ T → g'.sn T = false) (hp : ∀ x ∈ l, Qbb x.2)
    {v : VV} {val : Value} (ho : Qys v = true) (hv : Qds P (Qcv w) (Hp l) g' v val) :
    ∃ g2, Rel P E g2 (s.imp l) a w' ∧ HLe g s.H g2 (s.imp l).H ∧ (∀ T, (s.nx ≤ T → s.nx + l.length ≤ T) → g2.sn T = g.sn T) ∧ Qds P E (s.imp l).H g2 (shV s.nx v) val := by
  obtain ⟨h1, h2⟩ := Qug h.heap (n := s.nx) (fun T ha hb => Qe0 h hr ha hb) h' hp
  refine ⟨_, Qep (n' := s.nx + l.length) h h2 h1 (fun T hT => ?_), h2, fun T hT => ?_, Xc8 hk ho hv⟩
  rotate_left
  · have : ¬ (s.nx ≤ T ∧ T < s.nx + l.length) := by omega
    simp only [Gh.imp, if_neg this]
  obtain ⟨f1, f2⟩ := Qfw (Nat.le_add_right _ _) hT
  have : ¬ (s.nx ≤ T ∧ T < s.nx + l.length) := by omega
  simp only [Gh.imp, if_neg this]
  exact h.fresh T f1
end
def Qco (H : Qbi) (T i j : Nat) : Option Qbi :=
  match H T with
  | .root e rows => match rows[i]? with
    | some r => match r[j]? with
      | some (.ref T' n) => match H T' with
        | .root e' rows' => if n ≤ rows'.length ∧ T' ≠ T then some (Qbd T (.root e (rows.set i (r.set j (.list e' (rows'.take n))))) (Qbd T' .dead H)) else none
        | _ => none
      | _ => none
    | _ => none
  | _ => none
def Qb1 : List (Nat × Nat × Nat) → Qbi → Option Qbi
  | [], H => some H
  | (T, i, j) :: ms, H => match Qco H T i j with
    | some H' => Qb1 ms H'
    | none => none
def Gh.merge (g : Gh) (T i j T' n : Nat) : Gh :=
  { g with
    hd := fun X p => match p with
      | (a, b) :: q => if X = T ∧ a = i ∧ b = j then (if q = [] then Qib n (g.hd T' []) else g.hd T' q) else g.hd X ((a, b) :: q)
      | [] => g.hd X []
    own := fun b => match g.own b with
      | some (X, p) => if X = T' then some (T, (i, j) :: p) else some (X, p)
      | none => none }
section
variable {P : Program} {E : Env} {g g' : Gh} {H H' : Qbi} {w w' : World}
theorem Qi9 (h : HLe g H g' H') {X Y : Nat} {p q : Qk6} {e : TypeId} {rows : List (List PT)} (hn : Qkp P E H g w X p e rows) (n : Nat) (hln : n ≤ rows.length) (h1 : g'.hd Y q = Qib n (g.hd X p)) (h2 : ∀ x, g'.hd Y (q ++ [x]) = g.hd X (p ++ [x]))
    (h3 : ∀ b, g.own b = some (X, p) → g'.own b = some (Y, q)) : Qkp P E H' g' w Y q e (rows.take n) := by
  have hl : (rows.take n).length = n := by simp; omega
  rcases hn with ⟨k1, k2⟩ | ⟨b, cap, cur, k1, k2, k3, k4, k5, k6, k7, k8⟩
  · subst k2
    exact .inl ⟨by rw [h1, k1]; have : n = 0 := by simpa using hln
                   subst this; rfl, by simp⟩
  · refine .inr ⟨b, cap, cur, by rw [h1, k1, hl]; rfl, h3 b k2, k3, k4, by omega, k6, k7, fun i r hr => ?_⟩
    rw [List.getElem?_take] at hr
    split at hr
    · obtain ⟨m1, m2⟩ := k8 i r hr
      refine ⟨m1, fun j c hc => ?_⟩
      obtain ⟨u, m3, m4⟩ := m2 j c hc
      refine ⟨u, m3, ?_⟩
      rw [h2]
      exact Qck h m4
    · cases hr
theorem Xeu {e : TypeId} {rows : List (List PT)} {i j : Nat} {r : List PT} (hr : rows[i]? = some r) (hj : j < r.length) {c : PT} {a b : Nat} {p : Qk6} :
    At ((a, b) :: p) (.list e (rows.set i (r.set j c))) = if a = i ∧ b = j then At p c else At ((a, b) :: p) (.list e rows) := by
  have hlt : i < rows.length := (List.getElem?_eq_some_iff.1 hr).1
  simp only [At]
  by_cases ha : a = i
  · subst ha
    rw [List.getElem?_set_self hlt, hr]
    simp only [Option.getD_some]
    by_cases hb : b = j
    · subst hb
      simp [hj]
    · rw [List.getElem?_set_ne (Ne.symm hb)]
      simp [hb]
  · rw [List.getElem?_set_ne (Ne.symm ha)]
    simp [ha]
theorem Qt7 {e : TypeId} {rows : List (List PT)} {n : Nat} {x : Nat × Nat} {p : Qk6} {z : TypeId × List (List PT)} (h : At (x :: p) (.list e (rows.take n)) = some z) : At (x :: p) (.list e rows) = some z := by
  obtain ⟨a, b⟩ := x
  simp only [At] at h ⊢
  rw [List.getElem?_take] at h
  split at h
  · exact h
  · simp at h
theorem Qxz (h : HRel P E g H w) {T i j T' n : Nat} {e e' : TypeId} {rows rows' : List (List PT)} {r : List PT} (hT : H T = .root e rows) (hr : rows[i]? = some r) (hc : r[j]? = some (.ref T' n)) (hT' : H T' = .root e' rows') (hn : n ≤ rows'.length) (hne : T' ≠ T) :
    HRel P E (g.merge T i j T' n) (Qbd T (.root e (rows.set i (r.set j (.list e' (rows'.take n))))) (Qbd T' .dead H)) w ∧
      HLe g H (g.merge T i j T' n) (Qbd T (.root e (rows.set i (r.set j (.list e' (rows'.take n))))) (Qbd T' .dead H)) := by
  have hj : j < r.length := (List.getElem?_eq_some_iff.1 hc).1
  have hlt : i < rows.length := (List.getElem?_eq_some_iff.1 hr).1
  have hle : HLe g H (g.merge T i j T' n) (Qbd T (.root e (rows.set i (r.set j (.list e' (rows'.take n))))) (Qbd T' .dead H)) := by
    refine ⟨fun X hX => hX, fun X e2 rows2 _ hX => ?_, fun X _ hX => ?_, fun X _ _ => rfl, fun X _ _ => rfl⟩
    · by_cases c1 : X = T
      · subst c1
        rw [Qa7] at hX
        injection hX with e1 _
        subst e1
        exact ⟨_, hT⟩
      · rw [Qa9 _ _ c1] at hX
        by_cases c2 : X = T'
        · subst c2; rw [Qa7] at hX; cases hX
        · rw [Qa9 _ _ c2] at hX; exact ⟨_, hX⟩
    · by_cases c1 : X = T
      · subst c1; simp [hT, Ent.live]
      · rw [Qa9 _ _ c1] at hX
        by_cases c2 : X = T'
        · subst c2; rw [Qa7] at hX; cases hX
        · rwa [Qa9 _ _ c2] at hX
  have hown : ∀ (X : Nat) (p : Qk6) (b : Nat), X ≠ T' → g.own b = some (X, p) → (g.merge T i j T' n).own b = some (X, p) := fun X p b hX hb => by
    simp only [Gh.merge, hb, if_neg hX]
  have hown' : ∀ (p : Qk6) (b : Nat), g.own b = some (T', p) → (g.merge T i j T' n).own b = some (T, (i, j) :: p) := fun p b hb => by
    simp only [Gh.merge, hb, if_true]
  refine ⟨⟨h.frm, fun X e2 rows2 hX p e3 rows3 hp => ?_, fun X cs hX => ?_, fun X hX => ?_⟩, hle⟩
  · by_cases c1 : X = T
    · subst c1
      rw [Qa7] at hX
      injection hX with e1 e4
      subst e1
      subst e4
      cases p with
      | nil =>
        simp only [At, Option.some.injEq, Prod.mk.injEq] at hp
        obtain ⟨rfl, rfl⟩ := hp
        rcases h.node X e rows hT [] e rows rfl with ⟨_, k2⟩ | ⟨b, cap, cur, k1, k2, k3, k4, k5, k6, k7, k8⟩
        · subst k2; simp at hlt
        · refine .inr ⟨b, cap, cur, by simpa [Gh.merge] using k1, hown X [] b (Ne.symm hne) k2, k3, k4, by simpa using k5, k6, k7, fun a ra hra => ?_⟩
          by_cases ha : a = i
          · subst ha
            rw [List.getElem?_set_self hlt] at hra
            injection hra with hra
            subst hra
            obtain ⟨m1, m2⟩ := k8 a r hr
            refine ⟨by simpa using m1, fun k c hk => ?_⟩
            by_cases hkj : k = j
            · subst hkj
              rw [List.getElem?_set_self hj] at hk
              injection hk with hk
              subst hk
              obtain ⟨u, m3, m4⟩ := m2 k _ hc
              refine ⟨u, m3, ?_⟩
              obtain ⟨_, _, m5⟩ := m4
              have := m5 (by simp [hT', Ent.isRoot])
              simp [Qhb, Gh.merge, this]
            · rw [List.getElem?_set_ne (Ne.symm hkj)] at hk
              obtain ⟨u, m3, m4⟩ := m2 k c hk
              refine ⟨u, m3, ?_⟩
              have : (g.merge X a j T' n).hd X ([] ++ [(a, k)]) = g.hd X ([] ++ [(a, k)]) := by simp [Gh.merge, hkj]
              rw [this]
              exact Qck hle m4
          · rw [List.getElem?_set_ne (Ne.symm ha)] at hra
            obtain ⟨m1, m2⟩ := k8 a ra hra
            refine ⟨m1, fun k c hk => ?_⟩
            obtain ⟨u, m3, m4⟩ := m2 k c hk
            refine ⟨u, m3, ?_⟩
            have : (g.merge X i j T' n).hd X ([] ++ [(a, k)]) = g.hd X ([] ++ [(a, k)]) := by simp [Gh.merge, ha]
            rw [this]
            exact Qck hle m4
      | cons x q =>
        obtain ⟨a, b⟩ := x
        rw [Xeu hr hj] at hp
        by_cases hab : a = i ∧ b = j
        · rw [if_pos hab] at hp
          obtain ⟨rfl, rfl⟩ := hab
          cases q with
          | nil =>
            simp only [At, Option.some.injEq, Prod.mk.injEq] at hp
            obtain ⟨rfl, rfl⟩ := hp
            exact Qi9 hle (h.node T' e' rows' hT' [] e' rows' rfl) n hn (by simp [Gh.merge]) (fun x => by simp [Gh.merge]) (fun b hb => hown' [] b hb)
          | cons y q =>
            have hk := h.node T' e' rows' hT' _ e3 rows3 (Qt7 hp)
            have hcut : Qib rows3.length (g.hd T' (y :: q)) = g.hd T' (y :: q) := by
              rcases hk with ⟨k1, k2⟩ | ⟨b, cap, cur, k1, _⟩
              · rw [k1, k2]; rfl
              · rw [k1]; rfl
            have := Qi9 (g' := g.merge X a b T' n) (Y := X) (q := (a, b) :: y :: q) hle hk rows3.length (Nat.le_refl _) (by rw [hcut]; simp [Gh.merge]) (fun x => by simp [Gh.merge]) (fun b hb => hown' _ b hb)
            rwa [List.take_length] at this
        · rw [if_neg hab] at hp
          have hk := h.node X e rows hT _ e3 rows3 hp
          have hcut : Qib rows3.length (g.hd X ((a, b) :: q)) = g.hd X ((a, b) :: q) := by
            rcases hk with ⟨k1, k2⟩ | ⟨b, cap, cur, k1, _⟩
            · rw [k1, k2]; rfl
            · rw [k1]; rfl
          have := Qi9 (g' := g.merge X i j T' n) (Y := X) (q := (a, b) :: q) hle hk rows3.length (Nat.le_refl _) (by rw [hcut]; simp [Gh.merge, hab]) (fun x => by simp [Gh.merge, hab]) (fun b hb => hown X _ b (Ne.symm hne) hb)
          rwa [List.take_length] at this
    · rw [Qa9 _ _ c1] at hX
      have c2 : X ≠ T' := by rintro rfl; rw [Qa7] at hX; cases hX
      rw [Qa9 _ _ c2] at hX
      refine Qc0 hle (h.node X e2 rows2 hX p e3 rows3 hp) (fun q => ?_) (fun b _ hb => hown X p b c2 hb) (fun _ _ _ => rfl)
      cases q with
      | nil => rfl
      | cons x q => obtain ⟨a, b⟩ := x; simp [Gh.merge, c1]
  · have c1 : X ≠ T := by rintro rfl; rw [Qa7] at hX; cases hX
    rw [Qa9 _ _ c1] at hX
    have c2 : X ≠ T' := by rintro rfl; rw [Qa7] at hX; cases hX
    rw [Qa9 _ _ c2] at hX
    refine Qd7 hle (h.box X cs hX) rfl (fun hh => by simp only [Gh.merge, hh]) (fun _ _ hh => hh) (fun cur e he => ⟨cur, he, fun _ _ _ => rfl⟩)
  · by_cases c1 : X = T
    · subst c1; exact h.seen X (by simp [hT, Ent.live])
    · rw [Qa9 _ _ c1] at hX
      by_cases c2 : X = T'
      · subst c2; rw [Qa7] at hX; cases hX
      · rw [Qa9 _ _ c2] at hX; exact h.seen X hX
theorem Ql1 : ∀ (ms : List (Nat × Nat × Nat)) (g : Gh) (H H' : Qbi), Qb1 ms H = some H' → HRel P E g H w → ∃ g', HRel P E g' H' w ∧ HLe g H g' H' ∧ ∀ T, g'.sn T = g.sn T
  | [], g, H, H', hm, h => by
    simp only [Qb1, Option.some.injEq] at hm
    subst hm
    exact ⟨g, h, HLe.refl _ _, fun _ => rfl⟩
  | (T, i, j) :: ms, g, H, H', hm, h => by
    simp only [Qb1] at hm
    split at hm
    · rename_i H1 h1
      have step : ∃ g1, HRel P E g1 H1 w ∧ HLe g H g1 H1 ∧ ∀ T, g1.sn T = g.sn T := by
        unfold Qco at h1
        split at h1
        · rename_i e rows hT
          split at h1
          · rename_i r hr
            split at h1
            · rename_i T' n hc
              split at h1
              · rename_i e' rows' hT'
                split at h1
                · rename_i hh
                  simp only [Option.some.injEq] at h1
                  subst h1
                  obtain ⟨k1, k2⟩ := Qxz h hT hr hc hT' hh.1 hh.2
                  exact ⟨_, k1, k2, fun _ => rfl⟩
                · cases h1
              · cases h1
            · cases h1
          · cases h1
        · cases h1
      obtain ⟨g1, k1, k2, k3⟩ := step
      obtain ⟨g2, k4, k5, k6⟩ := Ql1 ms g1 H1 H' hm k1
      exact ⟨g2, k4, k2.trans k5, fun T => (k6 T).trans (k3 T)⟩
    · cases hm
theorem Qff {s : St} {a : Act} {ms : List (Nat × Nat × Nat)} (h : Rel P E g s a w) (hm : Qb1 ms s.H = some H') : ∃ g', Rel P E g' { s with H := H' } a w ∧ HLe g s.H g' H' := by
  obtain ⟨g', h1, h2, h3⟩ := Ql1 ms g s.H H' hm h.heap
  exact ⟨g', Qep (n' := s.nx) h h2 h1 (fun T hT => by rw [h3]; exact h.fresh T hT), h2⟩
end
def HpE (l : List Ent) : Qbi := fun T => (l[T]?).getD .dead
def idx : List Nat → Nat → Option Nat
  | [], _ => none
  | X :: σ, T => if T = X then some 0 else (idx σ T).map (· + 1)
theorem Qh1 : ∀ {σ : List Nat} {T k : Nat}, idx σ T = some k → σ[k]? = some T
  | [], T, k, h => by cases h
  | X :: σ, T, k, h => by
    simp only [idx] at h
    split at h
    · rename_i e
      injection h with h
      subst h
      subst e
      rfl
    · cases hi : idx σ T with
      | none => rw [hi] at h; cases h
      | some m =>
        rw [hi] at h
        simp only [Option.map_some, Option.some.injEq] at h
        subst h
        rw [List.getElem?_cons_succ]
        exact Qh1 hi
theorem Qmj : ∀ {σ : List Nat} (hn : σ.Nodup) {T k : Nat}, σ[k]? = some T → idx σ T = some k
  | [], _, T, k, h => by simp at h
  | X :: σ, hn, T, 0, h => by
    simp only [List.getElem?_cons_zero, Option.some.injEq] at h
    subst h
    simp [idx]
  | X :: σ, hn, T, k + 1, h => by
    simp only [List.getElem?_cons_succ] at h
    rw [List.nodup_cons] at hn
    have hne : T ≠ X := fun hh => hn.1 (hh ▸ List.mem_of_getElem? h)
    simp only [idx, if_neg hne, Qmj hn.2 h, Option.map_some]
theorem Qfx : ∀ {σ : List Nat} {T : Nat}, idx σ T = none → T ∉ σ
  | [], T, h => by simp
  | X :: σ, T, h => by
    simp only [idx] at h
    split at h
    · cases h
    · rename_i e
      cases hi : idx σ T with
      | some m => rw [hi] at h; cases h
      | none =>
        have := Qfx hi
        simp [e, this]
theorem Xfu {σ : List Nat} {T : Nat} (h : T ∈ σ) : ∃ k, idx σ T = some k := by
  cases hi : idx σ T with
  | some k => exact ⟨k, rfl⟩
  | none => exact absurd h (Qfx hi)
theorem Qxp {σ : List Nat} {T : Nat} (h : T ∉ σ) : idx σ T = none := by
  cases hi : idx σ T with
  | none => rfl
  | some k => exact absurd (List.mem_of_getElem? (Qh1 hi)) h
def hid (σ : List Nat) : VV → Bool
  | .rf T _ => (idx σ T).isNone
  | _ => true
def Qnk (σ : List Nat) (H : Qbi) (x : VV) : VV :=
  match x with
  | .rf T n => match idx σ T with
    | some k => .rf k n
    | none => Qlk H (.rf T n)
  | .bp T j => match idx σ T with
    | some k => .bp k j
    | none => Qgd H T j
  | .nl e => .nl e
  | x => Qlk H x
def Qpj (σ : List Nat) (H : Qbi) : VV → VV
  | .agg vs => .agg (vs.map (Qnk σ H))
  | x => Qnk σ H x
def Xez (σ : List Nat) (H : Qbi) : VV → Prop
  | .bp T j => idx σ T = none ∧ (match H T with
    | .box cs => (cs.drop j).all (hid σ) = true
    | _ => True)
  | _ => True
def Qd0 (σ : List Nat) (H : Qbi) (x : VV) : Prop :=
  match x with
  | .rf T n => match idx σ T with
    | some _ => True
    | none => Qdm H (.rf T n)
  | .bp T j => match idx σ T with
    | some _ => True
    | none => Qdm H (.bp T j) ∧ (match H T with
      | .box cs => (cs.drop j).all (hid σ) = true
      | _ => True)
  | .bs T j n e => idx σ T = none ∧ Qdm H (.bs T j n e)
  | .clo _ caps => ∀ c ∈ caps, Qjo H c ∧ Xez σ H c
  | .np .. | .agg _ | .tup _ => False
  | _ => True
def Qhl (σ : List Nat) (H : Qbi) : VV → Prop
  | .agg vs => ∀ x ∈ vs, Qd0 σ H x
  | x => Qd0 σ H x
def Qeq (σ : List Nat) (H : Qbi) : Ent → Ent
  | .box cs => .box (cs.map (Qnk σ H))
  | x => x
def Qew (σ : List Nat) (H : Qbi) : Ent → Prop
  | .dead => False
  | .root _ rows => Qbb rows
  | .box cs => ∀ x ∈ cs, Qd0 σ H x
def Qcr : VV → Bool
  | .int _ _ | .bool _ | .str _ | .rf _ _ | .err _ | .any | .nl _ => true
  | _ => false
def Qa6 : Ent → Ent → Prop
  | _, .dead => True
  | .root e _, .root e' rows => e' = e ∧ Qbb rows
  | .box cs, .box cs' => cs'.length = cs.length ∧ cs'.all Qcr = true
  | _, _ => False
def Qbg : Ent → Prop
  | .root _ rows => Qbb rows
  | _ => False
structure SatO (P : Program) (f : FuncId) (args : List VV) (I : List Ent) (v : VV) (O : List Ent) : Prop where
  fn : ∃ fn, P.funcs[f]? = some fn ∧ (fn.name == "runtime.NumGoroutine") = false ∧ fn.body.isNone = false
  out : Qys v = true
  len : I.length ≤ O.length
  kept : ∀ (k : Nat) (x y : Ent), I[k]? = some x → O[k]? = some y → Qa6 x y
  new : ∀ (k : Nat) (y : Ent), I.length ≤ k → O[k]? = some y → Qbg y
  run : ∀ (E : Env) (g : Gh) (w : World) (vals : List Value), E.w0 = w → HRel P E g (HpE I) w → (∀ T, I.length ≤ T → g.sn T = false) → vals.length = args.length →
    (∀ (j : Nat) (x : VV) (u : Value), args[j]? = some x → vals[j]? = some u → Qju P E (HpE I) g x u) →
    Calls P f vals.toArray w fun e w' => ∃ val g', e = .returned val ∧ HRel P E g' (HpE O) w' ∧ (∀ T, O.length ≤ T → g'.sn T = false) ∧ HLe g (HpE I) g' (HpE O) ∧ Qds P E (HpE O) g' v val
def Xd7 (σ : List Nat) (H : Qbi) (g : Gh) (b o : Nat) : Prop :=
  (∃ T ∈ σ, ∃ e rows p e' rows' n c, H T = .root e rows ∧ At p (.list e rows) = some (e', rows') ∧ g.hd T p = .slice (some ⟨b, 0, none⟩) n c) ∨
  ∃ T ∈ σ, ∃ cs j, H T = .box cs ∧ j < cs.length ∧ b = (g.bx T).1 ∧ o = (g.bx T).2 + j
def Qdi (σ : List Nat) (H : Qbi) (g : Gh) (w : World) : Env := ⟨w, Xd7 σ H g, fun _ _ => True, fun _ _ _ _ _ _ => trivial⟩
def Gh.call (g : Gh) (σ : List Nat) : Gh :=
  { hd := fun k p => match σ[k]? with
      | some T => g.hd T p
      | none => undef
    bx := fun k => match σ[k]? with
      | some T => g.bx T
      | none => (0, 0)
    own := fun b => match g.own b with
      | some (T, p) => (idx σ T).map fun k => (k, p)
      | none => none
    ob := fun b o => match g.ob b o with
      | some (T, j) => (idx σ T).map fun k => (k, j)
      | none => none
    sn := fun k => decide (k < σ.length) }
section
variable {P : Program} {E : Env} {g g' : Gh} {H : Qbi} {s : St} {a : Act} {w w' : World} {ty : Ty} {σ : List Nat}
theorem Qfh (h : HRel P E g H w) {b o : Nat} (ho : Xd7 σ H g b o) :
    (∃ T ∈ σ, ∃ p, g.own b = some (T, p) ∧ (E.w0.heap.size ≤ b ∨ ∀ o, E.own b o) ∧ ∃ cur e, w.heap[b]? = some (.cells cur e (0, 0))) ∨
    ∃ T ∈ σ, ∃ j, g.own b = none ∧ g.ob b o = some (T, j) ∧ (E.w0.heap.size ≤ b ∨ E.own b o) ∧ ∃ cur e, w.heap[b]? = some (.cells cur e (0, 0)) := by
  rcases ho with ⟨T, hT, e, rows, p, e', rows', n, c, h1, h2, h3⟩ | ⟨T, hT, cs, j, h1, h2, rfl, rfl⟩
  · rcases h.node T e rows h1 p e' rows' h2 with ⟨k1, _⟩ | ⟨b', cap, cur, k1, k2, k3, k4, _⟩
    · rw [h3] at k1; cases k1
    · rw [h3] at k1
      injection k1 with k1
      injection k1 with k1
      injection k1 with k1
      subst k1
      exact .inl ⟨T, hT, p, k2, k3, cur, _, k4⟩
  · obtain ⟨cur, e, k1, k2, k3⟩ := h.box T cs h1
    obtain ⟨k4, k5, _⟩ := k3 j cs[j] (List.getElem?_eq_getElem h2)
    exact .inr ⟨T, hT, j, k2, k4, k5, cur, e, k1⟩
theorem Xbi (h : HRel P E g H w) {b o : Nat} {u : Value} (hr : E.rd b o u) : ¬ Xd7 σ H g b o := by
  intro ho
  obtain ⟨h1, h2, _⟩ := hr
  rcases Qfh h ho with ⟨T, _, p, _, k, _⟩ | ⟨T, _, j, _, _, k, _⟩
  · rcases k with k | k
    · omega
    · exact h2 (k o)
  · rcases k with k | k
    · omega
    · exact h2 k
theorem Xb9 (h : HRel P E g H w) {X : Nat} (hX : X ∉ σ) {p : Qk6} {b : Nat} (hb : g.own b = some (X, p)) (o : Nat) : ¬ Xd7 σ H g b o := by
  intro ho
  rcases Qfh h ho with ⟨T, hT, q, k, _⟩ | ⟨T, hT, j, k, _⟩
  · rw [hb] at k
    injection k with k
    injection k with k _
    exact hX (k ▸ hT)
  · rw [hb] at k; cases k
theorem Qub (h : HRel P E g H w) {X : Nat} (hX : X ∉ σ) {b o j : Nat} (h0 : g.own b = none) (hb : g.ob b o = some (X, j)) : ¬ Xd7 σ H g b o := by
  intro ho
  rcases Qfh h ho with ⟨T, hT, q, k, _⟩ | ⟨T, hT, j', _, k, _⟩
  · rw [h0] at k; cases k
  · rw [hb] at k
    injection k with k
    injection k with k _
    exact hX (k ▸ hT)
theorem Qlp (h : HRel P E g H w) {x : PT} {v : Value} (hr : Rd P E x v) : Rd P (Qdi σ H g w) x v := by
  cases x <;> try exact hr
  case list e rows =>
    obtain ⟨fh, h0, h1⟩ := hr
    refine ⟨fh, h0, fun p e' rows' hp => ?_⟩
    obtain ⟨A, cap, h2, h3, h4, h5⟩ := h1 p e' rows' hp
    refine ⟨A, cap, h2, h3, h4, ?_⟩
    rcases h5 with h5 | ⟨b, o, h5, h6⟩
    · exact .inl h5
    · refine .inr ⟨b, o, h5, fun i r hr => ?_⟩
      obtain ⟨h7, h8⟩ := h6 i r hr
      refine ⟨h7, fun j c hc => ?_⟩
      obtain ⟨u, h9, h10⟩ := h8 j c hc
      exact ⟨u, ⟨Nat.lt_of_lt_of_le h9.1 h.frm.size, Xbi h h9, Qj3 h.frm h9⟩, h10⟩
theorem Qwd (h : HRel P E g H w) {T : Nat} (hσ : T ∉ σ) {e : TypeId} {rows : List (List PT)} (hT : H T = .root e rows) (hp : Qbb rows) {n : Nat} (hn : n ≤ rows.length) : Rd P (Qdi σ H g w) (.list e (rows.take n)) (Qib n (g.hd T [])) := by
  obtain ⟨fh, h0, h1⟩ := Qvi h hT hp hn
  have node : ∀ p e' rows', At p (.list e rows) = some (e', rows') → ∀ m, m ≤ rows'.length → Qow P (Qdi σ H g w) e' (rows'.take m) (fun i j => g.hd T (p ++ [(i, j)])) (Qib m (g.hd T p)) := by
    intro p e' rows' hat m hm
    have hpur : Qbb rows' := Qik p (.list e rows) (.list _ _ hp) e' rows' hat
    have hlen : (rows'.take m).length = m := by simp; omega
    rcases h.node T e rows hT p e' rows' hat with ⟨h1, h2⟩ | ⟨b, cap, cur, h1, h2, h3, h4, h5, h6, h7, h8⟩
    · subst h2
      simp at hm
      subst hm
      exact ⟨none, 0, by rw [h1]; rfl, by simp, by simp [maxLen], .inl (by simp)⟩
    · refine ⟨_, cap, by rw [h1, hlen]; rfl, by rw [hlen]; omega, h6, .inr ⟨b, 0, rfl, fun i r hr => ?_⟩⟩
      rw [List.getElem?_take] at hr
      split at hr
      · obtain ⟨h9, h10⟩ := h8 i r hr
        refine ⟨h9, fun j c hc => ?_⟩
        obtain ⟨u, h11, h12⟩ := h10 j c hc
        refine ⟨u, ⟨(Array.getElem?_eq_some_iff.1 h4).1, Xb9 h hσ h2 _, ?_⟩, Qig (hpur r (List.mem_of_getElem? hr) c (List.mem_of_getElem? hc)) h12⟩
        rw [Nat.zero_add]
        exact Qe5 h4 h11
      · cases hr
  refine ⟨fun p => if p = [] then Qib n (g.hd T []) else g.hd T p, by simp, fun p e' rows' hat => ?_⟩
  cases p with
  | nil =>
    simp only [At, Option.some.injEq, Prod.mk.injEq] at hat
    obtain ⟨rfl, rfl⟩ := hat
    have := node [] e rows rfl n hn
    simpa using this
  | cons x q =>
    have hat' := Qt7 hat
    have h1 := node _ e' rows' hat' rows'.length (Nat.le_refl _)
    rw [List.take_length] at h1
    have h2 : Qib rows'.length (g.hd T (x :: q)) = g.hd T (x :: q) := by
      rcases h.node T e rows hT _ e' rows' hat' with ⟨h1, h2⟩ | ⟨b, cap, cur, h1, _⟩
      · rw [h1, h2]; rfl
      · rw [h1]; rfl
    rw [h2] at h1
    simpa using h1
theorem Xft (h : HRel P E g H w) {x : VV} {u : Value} (hx : Qea P E H g x u) (hok : Qwq H x) (hh : hid σ x = true) : Rd P (Qdi σ H g w) (x.pt H) u := by
  cases x with
  | nl e => have hx : u = .slice none 0 0 := hx; subst hx; exact Xcv
  | fr e rows => exact Qlp (x := .list e rows) h hx
  | rf T n =>
    simp only [Qwq] at hok
    split at hok
    · rename_i e rows hT
      obtain ⟨h1, h2⟩ := hok
      obtain ⟨_, _, hv⟩ := hx
      have hv := hv (by simp [hT, Ent.isRoot])
      simp only [VV.pt, hT]
      rw [hv]
      refine Qwd h (Qfx ?_) hT h2 h1
      simpa [hid] using hh
    · exact hok.elim
  | int => exact hx
  | bool => exact hx
  | str => exact hx
  | _ => exact hok.elim
theorem Qth (h : HRel P E g H w) {row : List PT} {v : Value} (hx : Qie P E H g (.fp row) v) {H' : Qbi} {g' : Gh} : Qie P (Qdi σ H g w) H' g' (.fp row) v := by
  obtain ⟨b, o, h1, h2⟩ := hx
  refine ⟨b, o, h1, fun j c hc => ?_⟩
  obtain ⟨u, h3, h4⟩ := h2 j c hc
  exact ⟨u, ⟨Nat.lt_of_lt_of_le h3.1 h.frm.size, Xbi h h3, Qj3 h.frm h3⟩, Qlp h h4⟩
theorem Qok (h : HRel P E g H w) {T j : Nat} {v : Value} (hx : Qie P E H g (.bp T j) v) (hok : Qjo H (.bp T j)) (hhd : Xez σ H (.bp T j)) {H' : Qbi} {g' : Gh} : Qie P (Qdi σ H g w) H' g' (Qgd H T j) v := by
  simp only [Qjo] at hok
  split at hok
  · rename_i cs hT
    obtain ⟨hn, hall⟩ := hhd
    rw [hT] at hall
    simp only at hall
    obtain ⟨_, _, hv⟩ := hx
    have hv := hv (by simp [hT, Ent.live])
    obtain ⟨cur, e, hw, ho, hc⟩ := h.box T cs hT
    simp only [Qgd, hT]
    refine ⟨_, _, hv, fun k c hk => ?_⟩
    simp only [List.getElem?_map, List.getElem?_drop, Option.map_eq_some_iff] at hk
    obtain ⟨x, hx, rfl⟩ := hk
    obtain ⟨hob, _, u, hu, hr⟩ := hc (j + k) x hx
    have hmem : x ∈ cs.drop j := List.mem_of_getElem? (i := k) (by rw [List.getElem?_drop]; exact hx)
    refine ⟨u, ⟨(Array.getElem?_eq_some_iff.1 hw).1, ?_, ?_⟩, Xft h hr (hok x hmem) (List.all_eq_true.1 hall x hmem)⟩
    · rw [Nat.add_assoc]; exact Qub h (Qfx hn) ho hob
    · have := Qe5 hw hu
      rw [Nat.add_assoc]
      exact this
  · exact hok.elim
theorem Xc9 (h : HRel P E g H w) {x : VV} {u : Value} (hx : Qea P E H g x u) {H' : Qbi} {g' : Gh} (hr : ∀ T n, x ≠ .rf T n) (hb : ∀ T j, x ≠ .bp T j) (hnl : ∀ e, x ≠ .nl e) (hok : Qd0 σ H x) : Qea P (Qdi σ H g w) H' g' (Qlk H x) u := by
  cases x with
  | rf T n => exact absurd rfl (hr T n)
  | bp T j => exact absurd rfl (hb T j)
  | nl e => exact absurd rfl (hnl e)
  | fr e rows => exact Qlp (x := .list e rows) h hx
  | clo f caps =>
    obtain ⟨cs, h1, h2, h3⟩ := hx
    refine ⟨cs, h1, by simpa using h2, fun j c u hc hu => ?_⟩
    simp only [List.getElem?_map, Option.map_eq_some_iff] at hc
    obtain ⟨c0, hc0, rfl⟩ := hc
    have hr := h3 j c0 u hc0 hu
    obtain ⟨ho, hh⟩ := hok c0 (List.mem_of_getElem? hc0)
    cases c0 <;> try exact ho.elim
    case bp T j => exact Qok h hr ho hh
    case fp row => exact Qth h hr
  | fp row => exact Qth h (g := g) (H := H) (H' := H') (g' := g') hx
  | bs T j n e =>
    obtain ⟨hn, hok⟩ := hok
    refine Qv4 h hx hok fun cs hT k u hk hu => ?_
    obtain ⟨x, hx⟩ : ∃ x, cs[k]? = some x := ⟨_, List.getElem?_eq_getElem hk⟩
    obtain ⟨cur, e0, hw, ho, hc⟩ := h.box T cs hT
    exact ⟨(Array.getElem?_eq_some_iff.1 hw).1, Qub h (Qfx hn) ho (hc k x hx).1, hu⟩
  | np => exact hok.elim
  | agg => exact hok.elim
  | tup => exact hok.elim
  | _ => exact hx
theorem Qyl {x : Ent} : (Qeq σ H x).isRoot = x.isRoot := by cases x <;> rfl
theorem Qza {x : Ent} : (Qeq σ H x).live = x.live := by cases x <;> rfl
theorem hpI {k T : Nat} (hk : σ[k]? = some T) : HpE (σ.map fun T => Qeq σ H (H T)) k = Qeq σ H (H T) := by simp [HpE, hk]
theorem Qqo {k : Nat} (hk : σ[k]? = none) : HpE (σ.map fun T => Qeq σ H (H T)) k = .dead := by simp [HpE, hk]
theorem Qmt (h : HRel P E g H w) {x : VV} {u : Value} (hx : Qea P E H g x u) (hok : Qd0 σ H x) : Qea P (Qdi σ H g w) (HpE (σ.map fun T => Qeq σ H (H T))) (g.call σ) (Qnk σ H x) u := by
  by_cases hr : ∃ T n, x = .rf T n
  · obtain ⟨T, n, rfl⟩ := hr
    simp only [Qd0] at hok
    simp only [Qnk]
    cases hi : idx σ T with
    | some k =>
      have hk := Qh1 hi
      obtain ⟨h1, h2, h3⟩ := hx
      refine ⟨by simp only [Gh.call, decide_eq_true_eq]; exact (List.getElem?_eq_some_iff.1 hk).1, h2, fun hroot => ?_⟩
      rw [hpI hk, Qyl] at hroot
      simp only [Gh.call, hk]
      exact h3 hroot
    | none =>
      rw [hi] at hok
      simp only [Qdm] at hok
      simp only [Qlk]
      split at hok
      · rename_i e rows hT
        obtain ⟨h1, h2⟩ := hok
        obtain ⟨_, _, hv⟩ := hx
        have hv := hv (by simp [hT, Ent.isRoot])
        rw [hv]
        exact Qwd h (Qfx hi) hT h2 h1
      · exact hok.elim
  · by_cases hb : ∃ T j, x = .bp T j
    · obtain ⟨T, j, rfl⟩ := hb
      simp only [Qd0] at hok
      simp only [Qnk]
      cases hi : idx σ T with
      | some k =>
        have hk := Qh1 hi
        obtain ⟨h1, h2, h3⟩ := hx
        refine ⟨by simp only [Gh.call, decide_eq_true_eq]; exact (List.getElem?_eq_some_iff.1 hk).1, h2, fun hlive => ?_⟩
        rw [hpI hk, Qza] at hlive
        simp only [Gh.call, hk]
        exact h3 hlive
      | none =>
        rw [hi] at hok
        have := Qok (σ := σ) (H' := HpE (σ.map fun T => Qeq σ H (H T))) (g' := g.call σ) h (T := T) (j := j) hx hok.1 ⟨hi, hok.2⟩
        simp only [Qgd] at this ⊢
        split at this
        · exact this
        · exact this.elim
    · by_cases hn : ∃ e, x = .nl e
      · obtain ⟨e, rfl⟩ := hn
        exact hx
      · have h1 : Qnk σ H x = Qlk H x := by
          cases x <;> first | rfl | exact absurd ⟨_, _, rfl⟩ hr | exact absurd ⟨_, _, rfl⟩ hb | exact absurd ⟨_, rfl⟩ hn
        rw [h1]
        exact Xc9 h hx (fun T n hh => hr ⟨T, n, hh⟩) (fun T n hh => hb ⟨T, n, hh⟩) (fun e hh => hn ⟨e, hh⟩) hok
theorem Xbv (h : HRel P E g H w) {x : VV} {u : Value} (hx : Qds P E H g x u) (hok : Qhl σ H x) : Qju P (Qdi σ H g w) (HpE (σ.map fun T => Qeq σ H (H T))) (g.call σ) (Qpj σ H x) u := by
  by_cases ha : ∃ vs, x = .agg vs
  · obtain ⟨vs, rfl⟩ := ha
    obtain ⟨cs, h1, h2, h3⟩ := hx
    refine ⟨cs, h1, by simpa using h2, fun j c u hc hu => ?_⟩
    simp only [List.getElem?_map, Option.map_eq_some_iff] at hc
    obtain ⟨c0, hc0, rfl⟩ := hc
    exact Qmt h (h3 j c0 u hc0 hu) (hok c0 (List.mem_of_getElem? hc0))
  · have hne : ∀ vs, x ≠ .agg vs := fun vs hh => ha ⟨vs, hh⟩
    have hnt : ∀ vs, x ≠ .tup vs := fun vs hh => by subst hh; exact hok
    rw [Qf4 hnt, Qhd hne] at hx
    have h1 : Qpj σ H x = Qnk σ H x := by cases x <;> first | rfl | exact absurd rfl (hne _)
    have h2 : Qd0 σ H x := by cases x <;> first | exact hok | exact absurd rfl (hne _)
    rw [h1]
    exact Qdc (Qmt h hx h2)
theorem Xbm (h : HRel P E g H w) (hn : σ.Nodup) (hok : ∀ T ∈ σ, Qew σ H (H T)) : HRel P (Qdi σ H g w) (g.call σ) (HpE (σ.map fun T => Qeq σ H (H T))) w := by
  refine ⟨Frm.refl _, fun k e rows hk p e2 rows2 hp => ?_, fun k cs hk => ?_, fun k hk => ?_⟩
  · cases hT : σ[k]? with
    | none => rw [Qqo hT] at hk; cases hk
    | some T =>
      rw [hpI hT] at hk
      have hroot : H T = .root e rows := by
        cases hx : H T with
        | root e' rows' => rw [hx] at hk; exact hk
        | box cs => rw [hx] at hk; cases hk
        | dead => rw [hx] at hk; cases hk
      have hmem := List.mem_of_getElem? hT
      have hidx := Qmj hn hT
      have hpr : Qbb rows := by have := hok T hmem; rw [hroot] at this; exact this
      have hpr2 : Qbb rows2 := Qik p (.list e rows) (.list _ _ hpr) e2 rows2 hp
      rcases h.node T e rows hroot p e2 rows2 hp with ⟨k1, k2⟩ | ⟨b, cap, cur, k1, k2, k3, k4, k5, k6, k7, k8⟩
      · exact .inl ⟨by simp only [Gh.call, hT]; exact k1, k2⟩
      · refine .inr ⟨b, cap, cur, by simp only [Gh.call, hT]; exact k1, by simp only [Gh.call, k2, hidx, Option.map_some], .inr fun o => .inl ⟨T, hmem, e, rows, p, e2, rows2, _, _, hroot, hp, k1⟩, k4, k5, k6, k7, fun i r hr => ?_⟩
        obtain ⟨m1, m2⟩ := k8 i r hr
        refine ⟨m1, fun j c hc => ?_⟩
        obtain ⟨u, m3, m4⟩ := m2 j c hc
        refine ⟨u, m3, ?_⟩
        simp only [Gh.call, hT]
        have := hpr2 r (List.mem_of_getElem? hr) c (List.mem_of_getElem? hc)
        cases this <;> exact m4
  · cases hT : σ[k]? with
    | none => rw [Qqo hT] at hk; cases hk
    | some T =>
      rw [hpI hT] at hk
      obtain ⟨cs0, hbox, rfl⟩ : ∃ cs0, H T = .box cs0 ∧ cs = cs0.map (Qnk σ H) := by
        cases hx : H T with
        | root e' rows' => rw [hx] at hk; cases hk
        | box cs0 => rw [hx] at hk; injection hk with hk; exact ⟨cs0, rfl, hk.symm⟩
        | dead => rw [hx] at hk; cases hk
      have hmem := List.mem_of_getElem? hT
      have hidx := Qmj hn hT
      have hokc := hok T hmem
      rw [hbox] at hokc
      obtain ⟨cur, e, k1, k2, k3⟩ := h.box T cs0 hbox
      have hbx : (g.call σ).bx k = g.bx T := by simp only [Gh.call, hT]
      refine ⟨cur, e, by rw [hbx]; exact k1, by rw [hbx]; simp only [Gh.call, k2], fun j c hc => ?_⟩
      simp only [List.getElem?_map, Option.map_eq_some_iff] at hc
      obtain ⟨c0, hc0, rfl⟩ := hc
      obtain ⟨k4, k5, u, k6, k7⟩ := k3 j c0 hc0
      rw [hbx]
      refine ⟨by simp only [Gh.call, k4, hidx, Option.map_some], .inr (.inr ⟨T, hmem, cs0, j, hbox, (List.getElem?_eq_some_iff.1 hc0).1, rfl, rfl⟩), u, k6, Qmt h k7 (hokc c0 (List.mem_of_getElem? hc0))⟩
  · cases hT : σ[k]? with
    | none => rw [Qqo hT] at hk; cases hk
    | some T => simp only [Gh.call, decide_eq_true_eq]; exact (List.getElem?_eq_some_iff.1 hT).1
end
def tkB (σ : List Nat) (nx k : Nat) : Nat := match σ[k]? with
  | some T => T
  | none => nx + (k - σ.length)
def bkC (σ : List Nat) (nx : Nat) : VV → VV
  | .rf k n => .rf (tkB σ nx k) n
  | x => x
def bkA (σ : List Nat) (nx : Nat) : VV → VV
  | .agg vs => .agg (vs.map (bkC σ nx))
  | x => bkC σ nx x
def bkV (σ : List Nat) (nx : Nat) : VV → VV
  | .tup vs => .tup (vs.map (bkA σ nx))
  | x => bkA σ nx x
def bkE (σ : List Nat) (nx : Nat) : Ent → Ent
  | .box cs => .box (cs.map (bkC σ nx))
  | x => x
def Qqx (bk : Ent → Ent) : List Nat → Nat → List Ent → Qbi → Qbi
  | T :: σ, n, o :: O, H => Qbd T (bk o) (Qqx bk σ n O H)
  | [], n, o :: O, H => Qbd n (bk o) (Qqx bk [] (n + 1) O H)
  | _, _, [], H => H
theorem Qwf (bk : Ent → Ent) : ∀ (O : List Ent) (n : Nat) (H : Qbi) (X : Nat), Qqx bk [] n O H X = if n ≤ X ∧ X < n + O.length then bk ((O[X - n]?).getD .dead) else H X
  | [], n, H, X => by simp [Qqx]; omega
  | o :: O, n, H, X => by
    simp only [Qqx]
    by_cases c : X = n
    · subst c; simp [Qa7]
    · rw [Qa9 _ _ c, Qwf bk O (n + 1) H X]
      by_cases d : n ≤ X ∧ X < n + (o :: O).length
      · simp only [List.length_cons] at d
        rw [if_pos (by omega), if_pos (by simp only [List.length_cons]; omega)]
        obtain ⟨k, rfl⟩ : ∃ k, X = n + 1 + k := ⟨X - (n + 1), by omega⟩
        rw [show n + 1 + k - (n + 1) = k by omega, show n + 1 + k - n = k + 1 by omega]
        simp
      · simp only [List.length_cons] at d
        rw [if_neg (by omega), if_neg (by simp only [List.length_cons]; omega)]
theorem Qz9 (bk : Ent → Ent) : ∀ (σ : List Nat) (hn : σ.Nodup) (O : List Ent) (hl : σ.length ≤ O.length) (n : Nat) (H : Qbi) (X : Nat),
    Qqx bk σ n O H X = match idx σ X with
      | some k => bk ((O[k]?).getD .dead)
      | none => if n ≤ X ∧ X < n + (O.length - σ.length) then bk ((O[σ.length + (X - n)]?).getD .dead) else H X
  | [], _, O, _, n, H, X => by rw [Qwf]; simp [idx]
  | T :: σ, _, [], hl, n, H, X => by simp at hl
  | T :: σ, hn, o :: O, hl, n, H, X => by
    simp only [Qqx, idx]
    rw [List.nodup_cons] at hn
    by_cases c : X = T
    · subst c; simp [Qa7]
    · rw [Qa9 _ _ c, if_neg c, Qz9 bk σ hn.2 O (by simpa using hl) n H X]
      cases hi : idx σ X with
      | some k => simp
      | none =>
        simp only [Option.map_none, List.length_cons, Nat.add_sub_add_right]
        rw [show σ.length + 1 + (X - n) = σ.length + (X - n) + 1 by omega]
        simp
def Gh.back (g g' : Gh) (σ : List Nat) (nx m sz : Nat) : Gh :=
  { hd := fun X p => match idx σ X with
      | some k => g'.hd k p
      | none => if nx ≤ X ∧ X < nx + m then g'.hd (σ.length + (X - nx)) p else g.hd X p
    bx := fun X => match idx σ X with
      | some k => g'.bx k
      | none => g.bx X
    own := fun b => if sz ≤ b then (g'.own b).map fun x => (tkB σ nx x.1, x.2) else match g.own b with
      | some (T, p) => (match idx σ T with
        | some _ => (g'.own b).map fun x => (tkB σ nx x.1, x.2)
        | none => some (T, p))
      | none => none
    ob := fun b o => if sz ≤ b then (g'.ob b o).map fun x => (tkB σ nx x.1, x.2) else match g.ob b o with
      | some (T, j) => (match idx σ T with
        | some _ => (g'.ob b o).map fun x => (tkB σ nx x.1, x.2)
        | none => some (T, j))
      | none => none
    sn := fun X => match idx σ X with
      | some _ => true
      | none => if nx ≤ X ∧ X < nx + m then g'.sn (σ.length + (X - nx)) else g.sn X }
section
variable {P : Program} {E : Env} {g g' : Gh} {H : Qbi} {s : St} {a : Act} {w w' : World} {ty : Ty} {σ : List Nat} {O : List Ent} {nx : Nat}
theorem Qsr (H : Qbi) (g : Gh) : ∀ σ : List Nat, ∃ N, ∀ T ∈ σ, ∀ cs, H T = .box cs → (g.bx T).2 + cs.length ≤ N
  | [] => ⟨0, fun T hT => by simp at hT⟩
  | X :: σ => by
    obtain ⟨N, hN⟩ := Qsr H g σ
    cases hx : H X with
    | box cs0 =>
      refine ⟨max N ((g.bx X).2 + cs0.length), fun T hT cs hc => ?_⟩
      rcases List.mem_cons.1 hT with rfl | hT
      · rw [hx] at hc; injection hc with hc; subst hc; exact Nat.le_max_right _ _
      · exact Nat.le_trans (hN T hT cs hc) (Nat.le_max_left _ _)
    | dead =>
      refine ⟨N, fun T hT cs hc => ?_⟩
      rcases List.mem_cons.1 hT with rfl | hT
      · rw [hx] at hc; cases hc
      · exact hN T hT cs hc
    | root e rows =>
      refine ⟨N, fun T hT cs hc => ?_⟩
      rcases List.mem_cons.1 hT with rfl | hT
      · rw [hx] at hc; cases hc
      · exact hN T hT cs hc
theorem Xfs (h : HRel P E g H w) {b : Nat} (ho : ∀ o, Xd7 σ H g b o) : ∃ T ∈ σ, ∃ p, g.own b = some (T, p) ∧ (E.w0.heap.size ≤ b ∨ ∀ o, E.own b o) := by
  obtain ⟨N, hN⟩ := Qsr H g σ
  have h1 := ho N
  rcases h1 with h1 | ⟨T, hT, cs, j, k1, k2, k3, k4⟩
  · rcases Qfh h (Or.inl h1 : Xd7 σ H g b N) with ⟨T, hT, p, k1, k2, _⟩ | ⟨T, hT, j, k1, _⟩
    · exact ⟨T, hT, p, k1, k2⟩
    · obtain ⟨T, hT, e, rows, p, e', rows', n, c, m1, m2, m3⟩ := h1
      have := (Xfm (h.node T e rows m1 p e' rows' m2) m3).2
      rw [this] at k1; cases k1
  · have := hN T hT cs k1
    omega
theorem Qn6 (h' : Frm (Qdi σ H g w) w') {b : Nat} (hb : b < w.heap.size) (hno : ∀ o, ¬ Xd7 σ H g b o) : w'.heap[b]? = w.heap[b]? := by
  cases hx : w.heap[b]? with
  | none => rw [Array.getElem?_eq_none_iff] at hx; omega
  | some x =>
    by_cases hc : ∃ c e fz, x = Obj.cells c e fz
    · obtain ⟨c, e, fz, rfl⟩ := hc
      obtain ⟨c', h1, h2, h3⟩ := h'.cells b c e fz hx
      have : c' = c := by
        apply Array.ext_getElem?
        intro i
        exact h3 i (hno i)
      rw [h1, this]
    · exact h'.other b x hx (fun c e fz hh => hc ⟨c, e, fz, hh⟩)
theorem Qvt {x : Ent} {e : TypeId} {rows : List (List PT)} (h : bkE σ nx x = .root e rows) : x = .root e rows := by
  cases x <;> first | exact h | (simp [bkE] at h; done)
theorem Xgc {x : Ent} {cs : List VV} (h : bkE σ nx x = .box cs) : ∃ cs0, x = .box cs0 ∧ cs = cs0.map (bkC σ nx) := by
  cases x with
  | box cs0 => simp only [bkE, Ent.box.injEq] at h; exact ⟨cs0, rfl, h.symm⟩
  | dead => cases h
  | root => cases h
theorem Qv1 {x : Ent} : (bkE σ nx x).live = x.live := by cases x <;> rfl
theorem Qol {x : Ent} : (bkE σ nx x).isRoot = x.isRoot := by cases x <;> rfl
theorem Xcm (h : HRel P E g H w) (hn : σ.Nodup) (hok : ∀ T ∈ σ, Qew σ H (H T)) (hlen : σ.length ≤ O.length)
    (hkept : ∀ (k : Nat) (x y : Ent), (σ.map fun T => Qeq σ H (H T))[k]? = some x → O[k]? = some y → Qa6 x y) (hnew : ∀ (k : Nat) (y : Ent), σ.length ≤ k → O[k]? = some y → Qbg y)
    (h' : HRel P (Qdi σ H g w) g' (HpE O) w') (hk : ∀ T, O.length ≤ T → g'.sn T = false) (hle' : HLe (g.call σ) (HpE (σ.map fun T => Qeq σ H (H T))) g' (HpE O))
    (hf : ∀ T, nx ≤ T → T < nx + (O.length - σ.length) → g.sn T = false) :
    HRel P E (g.back g' σ nx (O.length - σ.length) w.heap.size) (Qqx (bkE σ nx) σ nx O H) w' ∧ HLe g H (g.back g' σ nx (O.length - σ.length) w.heap.size) (Qqx (bkE σ nx) σ nx O H) ∧
      (∀ c u, Qcr c = true → Qea P (Qdi σ H g w) (HpE O) g' c u → Qea P E (Qqx (bkE σ nx) σ nx O H) (g.back g' σ nx (O.length - σ.length) w.heap.size) (bkC σ nx c) u) := by
  have hlive : ∀ T ∈ σ, (H T).live = true := fun T hT => by
    have := hok T hT
    cases hx : H T with
    | dead => rw [hx] at this; exact this.elim
    | _ => rfl
  have hsn : ∀ T ∈ σ, g.sn T = true := fun T hT => h.seen T (hlive T hT)
  have hat := Qz9 (bkE σ nx) σ hn O hlen nx H
  generalize hH2 : Qqx (bkE σ nx) σ nx O H = H2 at *
  generalize hg2 : g.back g' σ nx (O.length - σ.length) w.heap.size = g2
  have hin : ∀ k, k < σ.length → ∃ T, σ[k]? = some T ∧ idx σ T = some k ∧ T ∈ σ ∧ tkB σ nx k = T := fun k hk' => by
    have h1 : σ[k]? = some σ[k] := List.getElem?_eq_getElem hk'
    exact ⟨σ[k], h1, Qmj hn h1, List.getElem_mem hk', by simp only [tkB, h1]⟩
  have hnewT : ∀ k, σ.length ≤ k → k < O.length → tkB σ nx k = nx + (k - σ.length) ∧ idx σ (nx + (k - σ.length)) = none := fun k h1 h2 => by
    have h3 : σ[k]? = none := List.getElem?_eq_none h1
    refine ⟨by simp only [tkB, h3], Qxp fun hm => ?_⟩
    have := hsn _ hm
    rw [hf _ (by omega) (by omega)] at this
    cases this
  have key : ∀ k, k < O.length → ∃ y, O[k]? = some y ∧ H2 (tkB σ nx k) = bkE σ nx y ∧ HpE O k = y ∧ (∀ p, g2.hd (tkB σ nx k) p = g'.hd k p) ∧ (g'.sn k = true → g2.sn (tkB σ nx k) = true) := fun k hk' => by
    have h1 : O[k]? = some O[k] := List.getElem?_eq_getElem hk'
    rcases Nat.lt_or_ge k σ.length with c | c
    · obtain ⟨T, k1, k2, k3, k4⟩ := hin k c
      refine ⟨O[k], h1, by rw [k4, hat T, k2]; simp [h1], by simp [HpE, h1], fun p => by rw [k4, ← hg2]; simp only [Gh.back, k2], fun _ => by rw [k4, ← hg2]; simp only [Gh.back, k2]⟩
    · obtain ⟨k1, k2⟩ := hnewT k c hk'
      have hr : nx ≤ nx + (k - σ.length) ∧ nx + (k - σ.length) < nx + (O.length - σ.length) := ⟨by omega, by omega⟩
      have e1 : σ.length + (nx + (k - σ.length) - nx) = k := by omega
      refine ⟨O[k], h1, by rw [k1, hat, k2]; simp only [if_pos hr, e1, h1, Option.getD_some], by simp [HpE, h1], fun p => by rw [k1, ← hg2]; simp only [Gh.back, k2, if_pos hr, e1], fun hs => by rw [k1, ← hg2]; simp only [Gh.back, k2, if_pos hr, e1]; exact hs⟩
  have split : ∀ X, (∃ k, k < O.length ∧ X = tkB σ nx k ∧ (X ∈ σ → k < σ.length) ∧ (X ∉ σ → σ.length ≤ k)) ∨ (X ∉ σ ∧ idx σ X = none ∧ ¬ (nx ≤ X ∧ X < nx + (O.length - σ.length)) ∧ H2 X = H X ∧ (∀ p, g2.hd X p = g.hd X p) ∧ g2.bx X = g.bx X ∧ g2.sn X = g.sn X) := fun X => by
    cases hi : idx σ X with
    | some k =>
      have h1 := Qh1 hi
      have h2 : k < σ.length := (List.getElem?_eq_some_iff.1 h1).1
      exact .inl ⟨k, by omega, by simp only [tkB, h1], fun _ => h2, fun hm => absurd (List.mem_of_getElem? h1) hm⟩
    | none =>
      by_cases c : nx ≤ X ∧ X < nx + (O.length - σ.length)
      · obtain ⟨k1, _⟩ := hnewT (σ.length + (X - nx)) (by omega) (by omega)
        exact .inl ⟨σ.length + (X - nx), by omega, by rw [k1]; omega, fun hm => absurd hm (Qfx hi), fun _ => by omega⟩
      · refine .inr ⟨Qfx hi, rfl, c, by rw [hat X, hi]; simp only [if_neg c], fun p => by rw [← hg2]; simp only [Gh.back, hi, if_neg c], by rw [← hg2]; simp only [Gh.back, hi], by rw [← hg2]; simp only [Gh.back, hi, if_neg c]⟩
  have hcs : ∀ k, k < σ.length → (g.call σ).sn k = true := fun k hk' => by simp [Gh.call, hk']
  have hle : HLe g H g2 H2 := by
    have old : ∀ X, g.sn X = true → (∃ k, k < σ.length ∧ σ[k]? = some X ∧ X = tkB σ nx k) ∨ (H2 X = H X ∧ (∀ p, g2.hd X p = g.hd X p) ∧ g2.bx X = g.bx X ∧ g2.sn X = g.sn X) := fun X hX => by
      rcases split X with ⟨k, h1, h2, h3, h4⟩ | ⟨_, _, _, h4, h5, h6, h7⟩
      · by_cases hm : X ∈ σ
        · have h5 := h3 hm
          obtain ⟨T, k1, k2, k3, k4⟩ := hin k h5
          exact .inl ⟨k, h5, by rw [h2, k4]; exact k1, h2⟩
        · have hge := h4 hm
          obtain ⟨k1, k2⟩ := hnewT k hge h1
          have hz := hf (nx + (k - σ.length)) (by omega) (by omega)
          rw [h2, k1, hz] at hX
          cases hX
      · exact .inr ⟨h4, h5, h6, h7⟩
    have hI : ∀ k X, σ[k]? = some X → HpE (σ.map fun T => Qeq σ H (H T)) k = Qeq σ H (H X) := fun k X hX => hpI hX
    refine ⟨fun X hX => ?_, fun X e rows hX hr => ?_, fun X hX hr => ?_, fun X hX hr => ?_, fun X hX hr => ?_⟩
    · rcases old X hX with ⟨k, h1, h2, h3⟩ | ⟨_, _, _, h4⟩
      · obtain ⟨y, _, _, _, _, h5⟩ := key k (by omega)
        rw [h3]
        exact h5 (hle'.sn k (hcs k h1))
      · rw [h4]; exact hX
    · rcases old X hX with ⟨k, h1, h2, h3⟩ | ⟨h4, _⟩
      · obtain ⟨y, _, h5, h6, _⟩ := key k (by omega)
        rw [h3, h5] at hr
        have hy := Qvt hr
        obtain ⟨rows1, h7⟩ := hle'.root k e rows (hcs k h1) (by rw [h6]; exact hy)
        rw [hI k X h2] at h7
        cases hx : H X with
        | root e1 r1 => rw [hx] at h7; simp only [Qeq, Ent.root.injEq] at h7; rw [h7.1]; exact ⟨r1, rfl⟩
        | box cs => rw [hx] at h7; cases h7
        | dead => rw [hx] at h7; cases h7
      · rw [h4] at hr; exact ⟨rows, hr⟩
    · rcases old X hX with ⟨k, h1, h2, h3⟩ | ⟨h4, _⟩
      · exact hlive X (List.mem_of_getElem? h2)
      · rwa [h4] at hr
    · rcases old X hX with ⟨k, h1, h2, h3⟩ | ⟨_, h4, _⟩
      · obtain ⟨y, _, h5, h6, h7, _⟩ := key k (by omega)
        rw [h3, h5, Qol] at hr
        have h8 := hle'.hd k (hcs k h1) (by rw [h6]; exact hr)
        have h9 := h7 []
        rw [← h3] at h9
        rw [h9, h8]
        simp only [Gh.call, h2]
      · exact h4 []
    · rcases old X hX with ⟨k, h1, h2, h3⟩ | ⟨_, _, h4, _⟩
      · obtain ⟨y, _, h5, h6, h7, _⟩ := key k (by omega)
        rw [h3, h5, Qv1] at hr
        have h8 := hle'.bx k (hcs k h1) (by rw [h6]; exact hr)
        have h9 : g2.bx X = g'.bx k := by rw [← hg2]; simp only [Gh.back, Qmj hn h2]
        rw [h9, h8]
        simp only [Gh.call, h2]
      · exact h4
  have hcr : ∀ c u, Qcr c = true → Qea P (Qdi σ H g w) (HpE O) g' c u → Qea P E H2 g2 (bkC σ nx c) u := by
    intro c u ho hc
    cases c <;> first | exact hc | (simp [Qcr] at ho; done) | skip
    case rf k n =>
      obtain ⟨h1, h2, h3⟩ := hc
      have hlt : k < O.length := by
        rcases Nat.lt_or_ge k O.length with c | c
        · exact c
        · rw [hk k c] at h1; cases h1
      obtain ⟨y, k1, k2, k3, k4, k5⟩ := key k hlt
      refine ⟨k5 h1, h2, fun hr => ?_⟩
      rw [k2, Qol] at hr
      rw [k4]
      exact h3 (by rw [k3]; exact hr)
  have hfr : Frm E w' := by
    refine h.frm.step h'.frm.os h'.frm.tape h'.frm.output h'.frm.size fun b hb => ?_
    by_cases ho : ∃ o, Xd7 σ H g b o
    · obtain ⟨o, ho⟩ := ho
      have hcell : ∃ cur e, w.heap[b]? = some (.cells cur e (0, 0)) := by
        rcases Qfh h ho with ⟨_, _, _, _, _, k⟩ | ⟨_, _, _, _, _, _, k⟩ <;> exact k
      obtain ⟨cur, e, hw⟩ := hcell
      obtain ⟨c', h1, h2, h3⟩ := h'.frm.cells b cur e (0, 0) hw
      refine .inr ⟨cur, e, c', hw, h1, h2, fun o' ho' => h3 o' fun hh => ?_⟩
      rcases Qfh h hh with ⟨_, _, _, _, k, _⟩ | ⟨_, _, _, _, _, k, _⟩
      · rcases k with k | k
        · omega
        · exact ho' (k o')
      · rcases k with k | k
        · omega
        · exact ho' k
    · exact .inl (Qn6 h'.frm (Nat.lt_of_lt_of_le hb h.frm.size) fun o hh => ho ⟨o, hh⟩)
  refine ⟨⟨hfr, fun X e rows hX p e2 rows2 hp => ?_, fun X cs hX => ?_, fun X hX => ?_⟩, hle, hcr⟩
  · rcases split X with ⟨k, h1, h2, h3, h4⟩ | ⟨hm, hi, hnr, h4, h5, h6, h7⟩
    · obtain ⟨y, k1, k2, k3, k4, k5⟩ := key k h1
      rw [h2, k2] at hX
      have hy := Qvt hX
      subst hy
      have hpr : Qbb rows := by
        rcases Nat.lt_or_ge k σ.length with c | c
        · have hI : (σ.map fun T => Qeq σ H (H T))[k]? = some (Qeq σ H (H σ[k])) := by simp [c]
          have := hkept k _ _ hI k1
          cases hx : Qeq σ H (H σ[k]) with
          | root e1 r1 => rw [hx] at this; exact this.2
          | box cs => rw [hx] at this; exact this.elim
          | dead => rw [hx] at this; exact this.elim
        · exact hnew k _ c k1
      have hpr2 : Qbb rows2 := Qik p (.list e rows) (.list _ _ hpr) e2 rows2 hp
      rw [h2]
      rcases h'.node k e rows k3 p e2 rows2 hp with ⟨m1, m2⟩ | ⟨b, cap, cur, m1, m2, m3, m4, m5, m6, m7, m8⟩
      · exact .inl ⟨by rw [k4]; exact m1, m2⟩
      · have hb : (w.heap.size ≤ b) ∨ (b < w.heap.size ∧ ∃ T ∈ σ, ∃ p, g.own b = some (T, p) ∧ (E.w0.heap.size ≤ b ∨ ∀ o, E.own b o)) := by
          rcases Nat.lt_or_ge b w.heap.size with c | c
          · rcases m3 with m3 | m3
            · exact .inl m3
            · exact .inr ⟨c, Xfs h m3⟩
          · exact .inl c
        refine .inr ⟨b, cap, cur, by rw [k4]; exact m1, ?_, ?_, m4, m5, m6, m7, fun i r hr => ?_⟩
        · rw [← hg2]
          rcases hb with hb | ⟨hb, T, hT, q, hq, _⟩
          · simp only [Gh.back, if_pos hb, m2, Option.map_some]
          · obtain ⟨kk, hkk⟩ := Xfu hT
            simp only [Gh.back, if_neg (Nat.not_le.2 hb), hq, hkk, m2, Option.map_some]
        · rcases hb with hb | ⟨_, T, hT, q, _, hq⟩
          · exact .inl (Nat.le_trans h.frm.size hb)
          · exact hq
        · obtain ⟨q1, q2⟩ := m8 i r hr
          refine ⟨q1, fun j c hc => ?_⟩
          obtain ⟨u, q3, q4⟩ := q2 j c hc
          refine ⟨u, q3, ?_⟩
          rw [k4]
          have := hpr2 r (List.mem_of_getElem? hr) c (List.mem_of_getElem? hc)
          cases this <;> exact q4
    · rw [h4] at hX
      refine Qc0 hle (h.node X e rows hX p e2 rows2 hp) h5 (fun b hb ho => ?_) (fun b hb ho => Qn6 h'.frm hb (Xb9 h hm ho))
      rw [← hg2]
      simp only [Gh.back, if_neg (Nat.not_le.2 hb), ho, hi]
  · rcases split X with ⟨k, h1, h2, h3, h4⟩ | ⟨hm, hi, hnr, h4, h5, h6, h7⟩
    · obtain ⟨y, k1, k2, k3, k4, k5⟩ := key k h1
      rw [h2, k2] at hX
      obtain ⟨cs', rfl, rfl⟩ := Xgc hX
      rcases Nat.lt_or_ge k σ.length with c | c
      rotate_left
      · exact (hnew k _ c k1).elim
      obtain ⟨T, j1, j2, j3, j4⟩ := hin k c
      have hXT : X = T := by rw [h2, j4]
      subst hXT
      have hI : (σ.map fun T => Qeq σ H (H T))[k]? = some (Qeq σ H (H X)) := by simp [j1]
      have hkp := hkept k _ _ hI k1
      obtain ⟨cs0, hbox⟩ : ∃ cs0, H X = .box cs0 := by
        cases hx : H X with
        | root e1 r1 => rw [hx] at hkp; exact hkp.elim
        | box cs => exact ⟨cs, rfl⟩
        | dead => rw [hx] at hkp; exact hkp.elim
      rw [hbox] at hkp
      obtain ⟨hl, hall⟩ := hkp
      rw [List.length_map] at hl
      obtain ⟨cur0, e0, b1, b2, b3⟩ := h.box X cs0 hbox
      obtain ⟨cur, e, m1, m2, m3⟩ := h'.box k cs' k3
      have hbx : g'.bx k = g.bx X := by
        have := hle'.bx k (hcs k c) (by rw [k3]; rfl)
        rw [this]
        simp only [Gh.call, j1]
      have hbx2 : g2.bx X = g.bx X := by rw [← hg2]; simp only [Gh.back, j2, hbx]
      have hlt : (g.bx X).1 < w.heap.size := (Array.getElem?_eq_some_iff.1 b1).1
      rw [hbx] at m1 m2 m3
      refine ⟨cur, e, by rw [hbx2]; exact m1, by rw [hbx2, ← hg2]; simp only [Gh.back, if_neg (Nat.not_le.2 hlt), b2], fun j c' hj => ?_⟩
      simp only [List.getElem?_map, Option.map_eq_some_iff] at hj
      obtain ⟨c0, hc0, rfl⟩ := hj
      have hjl : j < cs0.length := by rw [← hl]; exact (List.getElem?_eq_some_iff.1 hc0).1
      obtain ⟨n1, n2, _⟩ := b3 j cs0[j] (List.getElem?_eq_getElem hjl)
      obtain ⟨n3, n4, u, n5, n6⟩ := m3 j c0 hc0
      rw [hbx2]
      refine ⟨?_, n2, u, n5, hcr c0 u (List.all_eq_true.1 hall c0 (List.mem_of_getElem? hc0)) n6⟩
      rw [← hg2]
      simp only [Gh.back, if_neg (Nat.not_le.2 hlt), n1, j2, n3, Option.map_some, j4]
    · rw [h4] at hX
      have hb := h.box X cs hX
      obtain ⟨cur0, e0, b1, b2, b3⟩ := hb
      have hlt : (g.bx X).1 < w.heap.size := (Array.getElem?_eq_some_iff.1 b1).1
      refine Qd7 hle (h.box X cs hX) h6 (fun hh => by rw [← hg2]; simp only [Gh.back, if_neg (Nat.not_le.2 hlt), hh]) (fun o j ho => by rw [← hg2]; simp only [Gh.back, if_neg (Nat.not_le.2 hlt), ho, hi]) (fun cur e he => ?_)
      obtain ⟨c', q1, q2, q3⟩ := h'.frm.cells _ cur e (0, 0) he
      exact ⟨c', q1, fun o j ho => q3 o (Qub h hm b2 ho)⟩
  · rcases split X with ⟨k, h1, h2, h3, h4⟩ | ⟨hm, hi, hnr, h4, h5, h6, h7⟩
    · obtain ⟨y, k1, k2, k3, k4, k5⟩ := key k h1
      rw [h2, k2, Qv1] at hX
      rw [h2]
      exact k5 (h'.seen k (by rw [k3]; exact hX))
    · rw [h4] at hX
      rw [h7]
      exact h.seen X hX
theorem Qrn {c : VV} (h : Qoy c = true) : Qcr c = true := by cases c <;> first | rfl | (simp [Qoy] at h)
def St.impO (s : St) (σ : List Nat) (O : List Ent) : St := { s with H := Qqx (bkE σ s.nx) σ s.nx O s.H, nx := s.nx + (O.length - σ.length) }
theorem Xdv (h : Rel P E g s a w) (hn : σ.Nodup) (hok : ∀ T ∈ σ, Qew σ s.H (s.H T)) (hlen : σ.length ≤ O.length) (hroom : s.room (O.length - σ.length) = true)
    (hkept : ∀ (k : Nat) (x y : Ent), (σ.map fun T => Qeq σ s.H (s.H T))[k]? = some x → O[k]? = some y → Qa6 x y) (hnew : ∀ (k : Nat) (y : Ent), σ.length ≤ k → O[k]? = some y → Qbg y)
    (h' : HRel P (Qdi σ s.H g w) g' (HpE O) w') (hk : ∀ T, O.length ≤ T → g'.sn T = false) (hle' : HLe (g.call σ) (HpE (σ.map fun T => Qeq σ s.H (s.H T))) g' (HpE O))
    {v : VV} {val : Value} (ho : Qys v = true) (hv : Qds P (Qdi σ s.H g w) (HpE O) g' v val) :
    ∃ g2, Rel P E g2 (s.impO σ O) a w' ∧ HLe g s.H g2 (s.impO σ O).H ∧ (∀ T, (s.nx ≤ T → s.nx + (O.length - σ.length) ≤ T) → g2.sn T = g.sn T) ∧ Qds P E (s.impO σ O).H g2 (bkV σ s.nx v) val := by
  obtain ⟨h1, h2, h3⟩ := Xcm (nx := s.nx) h.heap hn hok hlen hkept hnew h' hk hle' (fun T ha hb => Qe0 h hroom ha hb)
  have hsn : ∀ T, (s.nx ≤ T → s.nx + (O.length - σ.length) ≤ T) → (g.back g' σ s.nx (O.length - σ.length) w.heap.size).sn T = g.sn T := fun T hT => by
    have hc : ¬ (s.nx ≤ T ∧ T < s.nx + (O.length - σ.length)) := by omega
    simp only [Gh.back, if_neg hc]
    cases hi : idx σ T with
    | some k =>
      have hm := List.mem_of_getElem? (Qh1 hi)
      have := hok T hm
      refine (h.heap.seen T ?_).symm
      cases hx : s.H T with
      | dead => rw [hx] at this; exact this.elim
      | _ => rfl
    | none => rfl
  refine ⟨_, Qep (n' := s.nx + (O.length - σ.length)) h h2 h1 (fun T hT => ?_), h2, hsn, ?_⟩
  · obtain ⟨f1, f2⟩ := Qfw (Nat.le_add_right _ _) hT
    rw [hsn T (fun _ => f2)]
    exact h.fresh T f1
  · have hA : ∀ {x : VV} {u : Value}, Qsf x = true → Qju P (Qdi σ s.H g w) (HpE O) g' x u → Qju P E (s.impO σ O).H (g.back g' σ s.nx (O.length - σ.length) w.heap.size) (bkA σ s.nx x) u := by
      intro x u hx hu
      rcases Qta hx with ⟨vs, rfl, hvs⟩ | ⟨hne, hoc⟩
      · obtain ⟨cs, k1, k2, k3⟩ := hu
        refine ⟨cs, k1, by simpa using k2, fun j c u hc hu => ?_⟩
        simp only [List.getElem?_map, Option.map_eq_some_iff] at hc
        obtain ⟨c0, hc0, rfl⟩ := hc
        exact h3 _ _ (Qrn (hvs c0 (List.mem_of_getElem? hc0))) (k3 j c0 u hc0 hu)
      · rw [Qhd hne] at hu
        have : bkA σ s.nx x = bkC σ s.nx x := by cases x <;> first | rfl | exact absurd rfl (hne _)
        rw [this]
        exact Qdc (h3 _ _ (Qrn hoc) hu)
    by_cases ht : ∃ vs, v = .tup vs
    · obtain ⟨vs, rfl⟩ := ht
      obtain ⟨cs, k1, k2, k3⟩ := hv
      refine ⟨cs, k1, by simpa using k2, fun j c u hc hu => ?_⟩
      simp only [List.getElem?_map, Option.map_eq_some_iff] at hc
      obtain ⟨c0, hc0, rfl⟩ := hc
      have ho' : Qsf c0 = true := by
        simp only [Qys, List.all_eq_true] at ho
        exact ho c0 (List.mem_of_getElem? hc0)
      exact hA ho' (k3 j c0 u hc0 hu)
    · have hne : ∀ vs, v ≠ .tup vs := fun vs hh => ht ⟨vs, hh⟩
      rw [Qf4 hne] at hv
      have k1 : bkV σ s.nx v = bkA σ s.nx v := by cases v <;> first | rfl | exact absurd rfl (hne _)
      have k2 : Qsf v = true := by cases v <;> first | exact ho | exact absurd rfl (hne _)
      rw [k1]
      exact Qdd (hA k2 hv)
def Xae (P : Program) (f : FuncId) (xs : List VV) (s : St) (dst : Option Nat) (K : St → Prop) : Prop :=
  s.lim = none ∧ ∃ σ v O, σ.Nodup ∧ (∀ T ∈ σ, Qew σ s.H (s.H T)) ∧ (∀ x ∈ xs, Qhl σ s.H x) ∧ SatO P f (xs.map (Qpj σ s.H)) (σ.map fun T => Qeq σ s.H (s.H T)) v O ∧
    s.room (O.length - σ.length) = true ∧ ∃ s' : St, (s.impO σ O).putd dst (bkV σ s.nx v) = some s' ∧ K s'
end
def Qi8 (ops : Array Oper) (s : St) (o : Oper) : Option Bool :=
  match o.guard with
  | none => some true
  | some (j, want) => match (ops[j]?).bind (·.dst) with
    | none => some false
    | some t => match s.tm t with
      | .bool b => some (b == want)
      | .tup [] => some false
      | _ => none
def Qgt (s : St) (o : Oper) : Option (FuncId × List Operand × List TypeId × List VV) :=
  match o.op with
  | .call c => match c.callee with
    | .value (.func f) => some (f, c.args.toList, c.argTypes.toList, [])
    | .value (.tmp t) => match s.tm t with
      | .clo f caps => if caps.all Qnr = true then some (f, c.args.toList, c.argTypes.toList, caps) else none
      | _ => none
    | _ => none
  | _ => none
def Qcx (ty : Ty) (s : St) : List Operand → List TypeId → List VV
  | x :: xs, t :: ts => Qdv ty t (ev s x) :: Qcx ty s xs ts
  | x :: xs, [] => ev s x :: Qcx ty s xs []
  | [], _ => []
def vop (P : Program) (ty : Ty) (ops : Array Oper) (o : Oper) (s : St) (K : St → Prop) : Prop :=
  match Qi8 ops s o with
  | some true => match Qgt s o with
    | some (f, xs, ts, caps) => ((∀ x ∈ Qcx ty s xs ts ++ caps, Qgm s.H x) ∧ ∃ v l, SatP P f ((Qcx ty s xs ts ++ caps).map (Qnd s.H)) v l ∧ s.room l.length = true ∧ ∃ s', (s.imp l).putd o.dst (shV s.nx v) = some s' ∧ K s') ∨ Xae P f (Qcx ty s xs ts ++ caps) s o.dst K
    | none => ∃ s', Qhu ty s o = some s' ∧ K s'
  | some false => ∃ s', s.putd o.dst (.tup []) = some s' ∧ K s'
  | none => False
def Qb5 (P : Program) (ty : Ty) (ops : Array Oper) : List Oper → St → (St → Prop) → Prop
  | [], s, K => K s
  | o :: rest, s, K => vop P ty ops o s fun s' => Qb5 P ty ops rest s' K
def Xgn (P : Program) (E : Env) (Q : Exit → St → Prop) : Exit → Act → World → Prop
  | .normal, a, w => ∃ g s, Rel P E g s a w ∧ Q .normal s
  | .exit i, a, w => ∃ g s, Rel P E g s a w ∧ Q (.exit i) s
  | .ret, a, w => ∃ g s, Rel P E g s a w ∧ Q .ret s
  | _, _, _ => False
def VWP (P : Program) (E : Env) (c : Code) (Q : Exit → St → Prop) (s : St) : Prop :=
  ∀ g a w, Rel P E g s a w → c.wp P (Xgn P E Q) a w
section
variable {P : Program} {E : Env} {g g' : Gh} {s : St} {a : Act} {w w' : World} {ty : Ty} {ops : Array Oper}
theorem Ql3 (h : Rel P E g s a w) {o : Oper} {b : Bool} (hw : Qi8 ops s o = some b) : Region.wanted o (yielded ops a.tmps) = b := by
  unfold Qi8 at hw
  unfold Region.wanted
  split at hw
  · rename_i hg
    rw [hg]
    simpa using hw
  · rename_i j want hg
    rw [hg]
    show (yielded ops a.tmps j == some want) = b
    unfold yielded
    split at hw
    · rename_i hd
      rw [hd]
      simp only [Option.some.injEq] at hw
      subst hw
      rfl
    · rename_i t hd
      rw [hd]
      have ht := h.tmps t
      split at hw
      · rename_i b' hb
        rw [hb] at ht
        have ht : a.tmps.getD t undef = .bool b' := ht
        simp only [Option.some.injEq] at hw
        subst hw
        have : a.tmps[t]? = some (.bool b') := by
          rw [Array.getD_eq_getD_getElem?] at ht
          cases hx : a.tmps[t]? with
          | none => rw [hx] at ht; cases ht
          | some u => rw [hx] at ht; simp only [Option.getD_some] at ht; rw [ht]
        simp [this]
      · rename_i hb
        rw [hb] at ht
        obtain ⟨cs, h1, h2, _⟩ := ht
        have : cs = [] := by simpa using h2
        subst this
        simp only [Option.some.injEq] at hw
        subst hw
        rw [Array.getD_eq_getD_getElem?] at h1
        cases hx : a.tmps[t]? with
        | none => simp [hx]
        | some u =>
          rw [hx] at h1
          simp only [Option.getD_some] at h1
          subst h1
          simp [hx]
      · cases hw
theorem Qlz {H : Qbi} : Qds P E H g (.tup []) undef := ⟨[], rfl, rfl, fun j c u hc => by simp at hc⟩
theorem Qkn (h : Rel P E g s a w) : ∀ (xs : List Operand) (ts : List TypeId), (Qcx ty s xs ts).length = xs.length ∧
    ∀ (j : Nat) (x : VV) (u : Value), (Qcx ty s xs ts)[j]? = some x → (xs.map a.eval)[j]? = some u → Qds P E s.H g x u
  | [], ts => ⟨by cases ts <;> rfl, fun j x u hx hu => by simp at hu⟩
  | x :: xs, [] => by
    obtain ⟨h1, h2⟩ := Qkn h xs []
    refine ⟨by simp [Qcx, h1], fun j y u hy hu => ?_⟩
    cases j with
    | zero =>
      simp only [Qcx, List.getElem?_cons_zero, List.map_cons, Option.some.injEq] at hy hu
      subst hy; subst hu
      exact Qci h x
    | succ j => exact h2 j y u (by simpa [Qcx] using hy) (by simpa using hu)
  | x :: xs, t :: ts => by
    obtain ⟨h1, h2⟩ := Qkn h xs ts
    refine ⟨by simp [Qcx, h1], fun j y u hy hu => ?_⟩
    cases j with
    | zero =>
      simp only [Qcx, List.getElem?_cons_zero, List.map_cons, Option.some.injEq] at hy hu
      subst hy; subst hu
      exact Qfj t (Qci h x)
    | succ j => exact h2 j y u (by simpa [Qcx] using hy) (by simpa using hu)
theorem Qob {s : St} {o : Oper} {f : FuncId} {xs : List Operand} {ts : List TypeId} {caps : List VV} (h : Qgt s o = some (f, xs, ts, caps)) :
    (caps = [] ∧ o.op = .call { callee := .value (.func f), args := xs.toArray, argTypes := ts.toArray }) ∨
    ∃ t, s.tm t = .clo f caps ∧ caps.all Qnr = true ∧ o.op = .call { callee := .value (.tmp t), args := xs.toArray, argTypes := ts.toArray } := by
  unfold Qgt at h
  split at h
  · rename_i c ho
    split at h
    · rename_i f' hc
      simp only [Option.some.injEq, Prod.mk.injEq] at h
      obtain ⟨rfl, rfl, rfl, rfl⟩ := h
      refine .inl ⟨rfl, ?_⟩
      rw [ho]
      cases c
      simp only at hc
      subst hc
      simp
    · rename_i t hc
      split at h
      · rename_i f' caps' ht
        split at h
        · rename_i hcap
          simp only [Option.some.injEq, Prod.mk.injEq] at h
          obtain ⟨rfl, rfl, rfl, rfl⟩ := h
          refine .inr ⟨t, ht, hcap, ?_⟩
          rw [ho]
          cases c
          simp only at hc
          subst hc
          simp
        · cases h
      · cases h
    · cases h
  · cases h
theorem Qtu {o : Oper} {t : Nat} {f : FuncId} {fn : Func} {args : Array Operand} {ats : Array TypeId} {cs : List Value} (hop : o.op = .call { callee := .value (.tmp t), args, argTypes := ats }) (hv : a.eval (.tmp t) = .func (.func f) #[] cs.toArray)
    (hf : P.funcs[f]? = some fn) (hname : (fn.name == "runtime.NumGoroutine") = false) (hb : fn.body.isNone = false) : (execOp a.eval o).run P w = .ok (.enter f (args.map a.eval ++ cs.toArray)) w := by
  have h1 : ¬ fn.name = "runtime.NumGoroutine" := by simpa using hname
  have h2 : ¬ fn.body = none := by cases hx : fn.body <;> simp_all
  unfold execOp
  simp [hop, resolve, hv, Deferred.ofValue, invoke, callFunc, hf, h1, h2]
theorem Qgh (hT : Qeo P ty) (h : Rel P E g s a w) {o : Oper} {K : St → Prop} (hv : vop P ty ops o s K) {Kp : Act → World → Prop} {Q : Exit → Act → World → Prop}
    (hK : ∀ g' s' a' w', K s' → Rel P E g' s' a' w' → (∀ T, (s.nx ≤ T → s'.nx ≤ T) → g'.sn T = g.sn T) → Kp a' w') :
    if Region.wanted o (yielded ops a.tmps) then o.wp P a w Kp Q ∨ (o.asks P a w ∧ LetsOut Q) else Kp (a.put o.dst undef) w := by
  unfold vop at hv
  split at hv
  · rename_i hw
    rw [Ql3 h hw, if_pos rfl]
    refine .inl ?_
    unfold Oper.wp
    split at hv
    · rename_i f xs ts caps hf
      obtain ⟨hlen, hargs⟩ := Qkn (ty := ty) h xs ts
      have hcs : ∀ fn, P.funcs[f]? = some fn → (fn.name == "runtime.NumGoroutine") = false → fn.body.isNone = false → ∃ cs : List Value, cs.length = caps.length ∧ (∀ (j : Nat) (c : VV) (u : Value), caps[j]? = some c → cs[j]? = some u → Qds P E s.H g c u) ∧
          (execOp a.eval o).run P w = .ok (.enter f (xs.map a.eval ++ cs).toArray) w := by
        intro fn hfn hname hbody
        rcases Qob hf with ⟨rfl, hop⟩ | ⟨t, ht, _, hop⟩
        · refine ⟨[], rfl, fun j c u hc => by simp at hc, ?_⟩
          rw [Conc.run_call_body hop hfn hname hbody]
          simp
        · have hr := h.tmps t
          rw [ht] at hr
          obtain ⟨cs, h1, h2, h3⟩ := hr
          refine ⟨cs, h2, fun j c u hc hu => ?_, ?_⟩
          · have := h3 j c u hc hu
            cases c <;> first | exact this | exact this.elim
          · rw [Qtu hop (cs := cs) h1 hfn hname hbody]
            simp
      have hall : ∀ cs : List Value, cs.length = caps.length → (∀ (j : Nat) (c : VV) (u : Value), caps[j]? = some c → cs[j]? = some u → Qds P E s.H g c u) →
          ∀ (j : Nat) (y : VV) (u : Value), (Qcx ty s xs ts ++ caps)[j]? = some y → (xs.map a.eval ++ cs)[j]? = some u → Qds P E s.H g y u := by
        intro cs hcl hcr j y u hy hu
        rw [List.getElem?_append] at hy
        split at hy
        · rename_i hj
          refine hargs j y u hy ?_
          rwa [List.getElem?_append_left (by simpa [hlen] using hj)] at hu
        · rename_i hj
          refine hcr _ y u hy ?_
          rw [List.getElem?_append_right (by simpa [hlen] using hj)] at hu
          simpa [hlen] using hu
      rcases hv with ⟨hok, v, l, hS, hroom, s', hput, hk⟩ | ⟨hlim, σ, v, O, hn, hok1, hok2, hS, hroom, s', hput, hk⟩
      · obtain ⟨fn, hfn, hname, hbody⟩ := hS.fn
        obtain ⟨cs, hcl, hcr, hrunE⟩ := hcs fn hfn hname hbody
        rw [hrunE]
        simp only [Oper.upon_enter]
        have hrun := hS.run w (xs.map a.eval ++ cs) (by simp [hlen, hcl]) (fun j x u hx hu => by
          simp only [List.getElem?_map, Option.map_eq_some_iff] at hx
          obtain ⟨y, hy, rfl⟩ := hx
          exact Xfq h.heap (hall cs hcl hcr j y u hy hu) (hok y (List.mem_of_getElem? hy)))
        refine hrun.mono fun e w' he => ?_
        obtain ⟨val, g1, rfl, h1, h2, h3⟩ := he
        obtain ⟨g2, k1, k2, k3, k4⟩ := Qxn h hroom h1 h2 hS.pur hS.out h3
        obtain ⟨k5, k6, k7⟩ := Qfd k1 k4 hput
        exact hK g2 s' _ w' hk k5 (fun T hT => k3 T (fun hh => by have := hT hh; rw [k7] at this; exact this))
      · obtain ⟨fn, hfn, hname, hbody⟩ := hS.fn
        obtain ⟨cs, hcl, hcr, hrunE⟩ := hcs fn hfn hname hbody
        rw [hrunE]
        simp only [Oper.upon_enter]
        have hrun := hS.run (Qdi σ s.H g w) (g.call σ) w (xs.map a.eval ++ cs) rfl (Xbm h.heap hn hok1) (fun T hT => by
            have : ¬ T < σ.length := by simpa using hT
            simp [Gh.call, this]) (by simp [hlen, hcl]) (fun j x u hx hu => by
          simp only [List.getElem?_map, Option.map_eq_some_iff] at hx
          obtain ⟨y, hy, rfl⟩ := hx
          exact Xbv h.heap (hall cs hcl hcr j y u hy hu) (hok2 y (List.mem_of_getElem? hy)))
        refine hrun.mono fun e w' he => ?_
        obtain ⟨val, g1, rfl, h1, h2, h3, h4⟩ := he
        obtain ⟨g2, k1, k2, k3, k4⟩ := Xdv h hn hok1 (by simpa using hS.len) hroom hS.kept (fun k y hy => hS.new k y (by simpa using hy)) h1 h2 h3 hS.out h4
        obtain ⟨k5, k6, k7⟩ := Qfd k1 k4 hput
        exact hK g2 s' _ w' hk k5 (fun T hT => k3 T (fun hh => by have := hT hh; rw [k7] at this; exact this))
    · obtain ⟨s', hx, hk⟩ := hv
      obtain ⟨g', a', w', h1, h2, h3, h4⟩ := Qz0 hT h hx
      rcases h4 with ⟨v, hr, rfl⟩ | ⟨hr, rfl⟩
      · rw [hr]; exact hK g' s' _ w' hk h1 h3
      · rw [hr]; exact hK g' s' _ w' hk h1 h3
  · rename_i hw
    rw [Ql3 h hw, if_neg (by simp)]
    obtain ⟨s', hput, hk⟩ := hv
    obtain ⟨k5, k6, k7⟩ := Qfd h Qlz hput
    exact hK g s' _ w hk k5 (fun _ _ => rfl)
  · exact hv.elim
theorem Qo1 (hT : Qeo P ty) {Q : Exit → St → Prop} : ∀ (l : List Oper) (g : Gh) (s : St) (a : Act) (w : World), Rel P E g s a w → Qb5 P ty ops l s (Q .normal) → wpList P ops (Xgn P E Q) l a w
  | [], g, s, a, w, h, hv => ⟨g, s, h, hv⟩
  | o :: rest, g, s, a, w, h, hv =>
    Qgh hT h hv fun g' s' a' w' hk hr _ => Qo1 hT rest g' s' a' w' hr hk
theorem Qyh (hT : Qeo P ty) {id : Nat} {Q : Exit → St → Prop} (h : Qb5 P ty ops ops.toList s (Q .normal)) : VWP P E (.region id ops false) Q s :=
  fun g a w hr => wp_region_list (Qo1 hT _ g s a w hr h)
theorem Qpu {c : Code} {Q Q' : Exit → St → Prop} (hq : ∀ e s, Q e s → ∃ s', (∀ g a w, Rel P E g s a w → ∃ g', Rel P E g' s' a w) ∧ Q' e s') (h : VWP P E c Q s) : VWP P E c Q' s :=
  fun g a w hr => Go.wp_mono (h g a w hr) fun e a w he => by
    cases e <;> first
      | exact he
      | (obtain ⟨g, s, h1, h2⟩ := he
         obtain ⟨s', h3, h4⟩ := hq _ _ h2
         obtain ⟨g', h5⟩ := h3 g a w h1
         exact ⟨g', s', h5, h4⟩)
theorem Qlc {Q : Exit → St → Prop} (h : Q .normal s) : VWP P E .skip Q s := fun g a w hr => wp_skip ⟨g, s, hr, h⟩
theorem Qlm {id : Nat} {Q : Exit → St → Prop} (h : Q (.exit id) s) : VWP P E (.exit id) Q s := fun g a w hr => wp_exit ⟨g, s, hr, h⟩
theorem Qpo {Q : Exit → St → Prop} (h : Q .ret s) : VWP P E .ret Q s := fun g a w hr => wp_ret ⟨g, s, hr, h⟩
def Qbm (K : St → Prop) (Q : Exit → St → Prop) : Exit → St → Prop
  | .normal, s => K s
  | e, s => Q e s
def Qa8 (id : Nat) (Q : Exit → St → Prop) : Exit → St → Prop
  | .exit i, s => if i = id then Q .normal s else Q (.exit i) s
  | e, s => Q e s
theorem Xf7 {x y : Code} {Q : Exit → St → Prop} (h : VWP P E x (Qbm (VWP P E y Q) Q) s) : VWP P E (.seq x y) Q s :=
  fun g a w hr => wp_seq (Go.wp_mono (h g a w hr) fun e a w he => by
    cases e
    case normal => obtain ⟨g, s, h1, h2⟩ := he; exact h2 g a w h1
    all_goals exact he)
theorem Qjx {id : Nat} {c : Code} {Q : Exit → St → Prop} (h : VWP P E c (Qa8 id Q) s) : VWP P E (.block id c) Q s :=
  fun g a w hr => wp_block (Go.wp_mono (h g a w hr) fun e a w he => by
    cases e
    case exit i =>
      obtain ⟨g, s, h1, h2⟩ := he
      by_cases c : i = id
      · subst c
        simp only [Qa8, if_true] at h2
        simp only [Exit.inBlock, if_true]
        exact ⟨g, s, h1, h2⟩
      · simp only [Qa8, if_neg c] at h2
        simp only [Exit.inBlock, if_neg c]
        exact ⟨g, s, h1, h2⟩
    all_goals exact he)
theorem Xea {c : Operand} {x y : Code} {b : Bool} {Q : Exit → St → Prop} (hc : ev s c = .bool b) (h : VWP P E (if b then x else y) Q s) : VWP P E (.cond c x y) Q s :=
  fun g a w hr => wp_cond (t := b) (by have := Qci hr c; rw [hc] at this; exact this) (h g a w hr)
theorem Qql {c : Code} {Q : Exit → St → Prop} (I : Nat → St → Prop) (n : Nat) (h0 : I n s) (round : ∀ n s, I n s → VWP P E c (Qbm (fun s' => ∃ m, m < n ∧ I m s') Q) s) : VWP P E (.loop c) Q s := by
  intro g a w hr
  have key : ∀ k m g s a w, m < k → I m s → Rel P E g s a w → Code.rounds P c (Xgn P E Q) k a w := by
    intro k
    induction k with
    | zero => intro m g s a w hm; omega
    | succ k ih =>
      intro m g s a w hm hI hr
      rw [rounds_succ]
      refine Go.wp_mono (round m s hI g a w hr) fun e a w he => ?_
      cases e
      case normal =>
        obtain ⟨g, s, h1, m', h2, h3⟩ := he
        exact ih m' g s a w (by omega) h3 h1
      all_goals exact he
  exact wp_loop_rounds (n + 1) (key (n + 1) n g s a w (Nat.lt_succ_self _) h0 hr)
structure Wk (s s' : St) : Prop where
  tm : ∀ t, s'.tm t = s.tm t ∨ s'.tm t = .any
  H : ∀ T, s'.H T = s.H T ∨ s'.H T = .dead
  nx : s.nx ≤ s'.nx
  N : s'.N = s.N
  lim : s.lim = none ∧ s'.lim = none
theorem Xf4 {H H' : Qbi} (hH : ∀ T, H' T = H T ∨ H' T = .dead) (h : HRel P E g H w) : HRel P E g H' w ∧ HLe g H g H' := by
  have hle : HLe g H g H' := by
    refine ⟨fun _ h => h, fun X e rows hX hh => ?_, fun X hX hh => ?_, fun X hX _ => rfl, fun X hX _ => rfl⟩
    · rcases hH X with h1 | h1
      · rw [h1] at hh; exact ⟨rows, hh⟩
      · rw [h1] at hh; cases hh
    · rcases hH X with h1 | h1
      · rwa [h1] at hh
      · rw [h1] at hh; cases hh
  refine ⟨⟨h.frm, fun X e rows hX p e2 rows2 hp => ?_, fun X cs hX => ?_, fun X hX => ?_⟩, hle⟩
  · rcases hH X with h1 | h1
    · rw [h1] at hX
      exact Qc0 hle (h.node X e rows hX p e2 rows2 hp) (fun _ => rfl) (fun _ _ hb => hb) (fun _ _ _ => rfl)
    · rw [h1] at hX; cases hX
  · rcases hH X with h1 | h1
    · rw [h1] at hX
      exact Qd7 hle (h.box X cs hX) rfl (fun hh => hh) (fun _ _ hh => hh) (fun cur e he => ⟨cur, he, fun _ _ _ => rfl⟩)
    · rw [h1] at hX; cases hX
  · rcases hH X with h1 | h1
    · rw [h1] at hX; exact h.seen X hX
    · rw [h1] at hX; cases hX
theorem Xhe {s' : St} (h : Rel P E g s a w) (k : Wk s s') : Rel P E g s' a w := by
  obtain ⟨h1, h2⟩ := Xf4 k.H h.heap
  refine ⟨by rw [h.size, k.N], h.defers, h1, fun T hT => ?_, fun t => ?_, E.pinOk _ _ _ _ h2 h.pin⟩
  · refine h.fresh T ?_
    unfold St.fresh at hT ⊢
    rw [k.lim.1]
    exact ⟨Nat.le_trans k.nx hT.1, trivial⟩
  · rcases k.tm t with h3 | h3
    · rw [h3]; exact Qi5 h2 (h.tmps t)
    · rw [h3]; trivial
theorem Xer {c : Code} {Q : Exit → St → Prop} {s' : St} (k : Wk s s') (h : VWP P E c Q s') : VWP P E c Q s := fun g a w hr => h g a w (Xhe hr k)
end
def Qcd (ty : Ty) (s : St) : List ResultVar → Option (List VV)
  | [] => some []
  | .tmp t :: rs => match Qcd ty s rs with
    | some vs => some (s.tm t :: vs)
    | none => none
  | .cell p t :: rs => match Qnx ty s t (s.tm p), Qcd ty s rs with
    | some v, some vs => some (v :: vs)
    | _, _ => none
def wrap : List VV → VV
  | [v] => v
  | vs => .tup vs
abbrev Out := Option Nat × TypeId × List (List PT)
def exC (H : Qbi) (x : VV) (acc : List Out) : Option (VV × List Out) :=
  match x with
  | .rf T n => match H T with
    | .root e rows => if n ≤ rows.length then some (.rf acc.length n, acc ++ [(some T, e, rows.take n)]) else none
    | _ => none
  | .nl e => some (.rf acc.length 0, acc ++ [(none, e, [])])
  | .int k n => some (.int k n, acc)
  | .bool b => some (.bool b, acc)
  | .str s => some (.str s, acc)
  | .err b => some (.err b, acc)
  | .any => some (.any, acc)
  | _ => none
def Qen (H : Qbi) : List VV → List Out → Option (List VV × List Out)
  | [], acc => some ([], acc)
  | x :: xs, acc => match exC H x acc with
    | some (y, acc) => match Qen H xs acc with
      | some (ys, acc) => some (y :: ys, acc)
      | none => none
    | none => none
def exA (H : Qbi) (x : VV) (acc : List Out) : Option (VV × List Out) :=
  match x with
  | .agg vs => match Qen H vs acc with
    | some (ys, acc) => some (.agg ys, acc)
    | none => none
  | x => exC H x acc
def Qf0 (H : Qbi) : List VV → List Out → Option (List VV × List Out)
  | [], acc => some ([], acc)
  | x :: xs, acc => match exA H x acc with
    | some (y, acc) => match Qf0 H xs acc with
      | some (ys, acc) => some (y :: ys, acc)
      | none => none
    | none => none
def exV (H : Qbi) (x : VV) : Option (VV × List Out) :=
  match x with
  | .tup vs => match Qf0 H vs [] with
    | some (ys, acc) => some (.tup ys, acc)
    | none => none
  | x => exA H x []
def Gh.out (g : Gh) (acc : List Out) : Gh :=
  { hd := fun j p => match acc[j]? with
      | some (some T, _, rows) => if p = [] then Qib rows.length (g.hd T []) else g.hd T p
      | some (none, _, _) => .slice none 0 0
      | none => undef
    bx := fun _ => (0, 0)
    own := fun b => match g.own b with
      | some (T, p) => (acc.findIdx? fun x => x.1 == some T).map fun j => (j, p)
      | none => none
    ob := fun _ _ => none
    sn := fun j => decide (j < acc.length) }
def Qd3 (H : Qbi) (acc : List Out) : Prop := ∀ (j : Nat) (x : Out), acc[j]? = some x → match x with
  | (some T, e, rows) => ∃ rows0, H T = .root e rows0 ∧ rows.length ≤ rows0.length ∧ rows = rows0.take rows.length
  | (none, _, rows) => rows = []
def Qbk (P : Program) (ty : Ty) (rs : List ResultVar) (v : VV) (l : List (TypeId × List (List PT))) (s : St) : Prop :=
  ∃ ms H' vs acc, Qb1 ms s.H = some H' ∧ Qcd ty s rs = some vs ∧ exV H' (wrap vs) = some (v, acc) ∧ (acc.filterMap (·.1)).Nodup ∧ acc.map (·.2) = l ∧ ∀ x ∈ l, Qbb x.2
section
variable {P : Program} {E : Env} {g g' : Gh} {s : St} {a : Act} {w w' : World} {ty : Ty} {H : Qbi}
theorem Qr9 (n : Nat) (v : Value) : Qib n (Qib n v) = Qib n v := by cases v <;> rfl
theorem Qh8 {acc : List Out} {x : Out} (h : Qd3 H acc) (hx : Qd3 H [x]) : Qd3 H (acc ++ [x]) := by
  intro j y hj
  rw [List.getElem?_append] at hj
  split at hj
  · exact h j y hj
  · rename_i hge
    have h1 := (List.getElem?_eq_some_iff.1 hj).1
    simp only [List.length_singleton] at h1
    have h0 : j - acc.length = 0 := by omega
    rw [h0] at hj
    exact hx 0 y hj
theorem Xek {x y : VV} {acc acc' : List Out} (h : exC H x acc = some (y, acc')) : (∃ z, acc' = acc ++ z) ∧ (Qd3 H acc → Qd3 H acc') ∧ Qoy y = true ∧
    ∀ (E : Env) (fin : List Out), (∃ z, fin = acc' ++ z) → ∀ u, Qea P E H g x u → Qea P E (Hp (fin.map (·.2))) (g.out fin) y u := by
  have triv : ∀ {x : VV}, Qoy x = true → (∀ T n, x ≠ .rf T n) → x = y ∧ acc = acc' → (∃ z, acc' = acc ++ z) ∧ (Qd3 H acc → Qd3 H acc') ∧ Qoy y = true ∧
    ∀ (E : Env) (fin : List Out), (∃ z, fin = acc' ++ z) → ∀ u, Qea P E H g x u → Qea P E (Hp (fin.map (·.2))) (g.out fin) y u := by
    intro x ho hn he
    obtain ⟨rfl, rfl⟩ := he
    refine ⟨⟨[], by simp⟩, fun h => h, ho, fun E fin hf u hu => ?_⟩
    cases x <;> first | exact hu | exact absurd rfl (hn _ _) | (simp [Qoy] at ho; done)
  unfold exC at h
  split at h
  · rename_i T n
    split at h
    · rename_i e rows hT
      split at h
      · rename_i hle
        simp only [Option.some.injEq, Prod.mk.injEq] at h
        obtain ⟨rfl, rfl⟩ := h
        have hl : (rows.take n).length = n := by simp; omega
        refine ⟨⟨_, rfl⟩, fun h => Qh8 h (fun j x hj => ?_), rfl, fun E fin hf u hu => ?_⟩
        · cases j with
          | zero =>
            simp only [List.getElem?_cons_zero, Option.some.injEq] at hj
            subst hj
            exact ⟨rows, hT, by rw [hl]; exact hle, by rw [hl]⟩
          | succ j => simp at hj
        · obtain ⟨z, rfl⟩ := hf
          obtain ⟨h1, h2, h3⟩ := hu
          refine ⟨by simp [Gh.out], h2, fun _ => ?_⟩
          have hget : (acc ++ [(some T, e, rows.take n)] ++ z)[acc.length]? = some (some T, e, rows.take n) := by simp
          simp only [Gh.out, hget, if_true, hl]
          rw [Qr9]
          exact h3 (by simp [hT, Ent.isRoot])
      · cases h
    · cases h
  · rename_i e
    simp only [Option.some.injEq, Prod.mk.injEq] at h
    obtain ⟨rfl, rfl⟩ := h
    refine ⟨⟨_, rfl⟩, fun h => Qh8 h (fun j x hj => ?_), rfl, fun E fin hf u hu => ?_⟩
    · cases j with
      | zero =>
        simp only [List.getElem?_cons_zero, Option.some.injEq] at hj
        subst hj
        rfl
      | succ j => simp at hj
    · obtain ⟨z, rfl⟩ := hf
      have hu : u = .slice none 0 0 := hu
      subst hu
      have hget : (acc ++ [(none, e, [])] ++ z)[acc.length]? = some (none, e, []) := by simp
      refine ⟨by simp [Gh.out], rfl, fun _ => ?_⟩
      simp only [Gh.out, hget]
      rfl
  all_goals first
    | (simp only [Option.some.injEq, Prod.mk.injEq] at h; exact triv rfl (fun _ _ hh => by cases hh) h)
    | cases h
theorem Xa6 : ∀ {xs ys : List VV} {acc acc' : List Out}, Qen H xs acc = some (ys, acc') → (∃ z, acc' = acc ++ z) ∧ (Qd3 H acc → Qd3 H acc') ∧ (∀ y ∈ ys, Qoy y = true) ∧ ys.length = xs.length ∧
    ∀ (E : Env) (fin : List Out), (∃ z, fin = acc' ++ z) → ∀ (j : Nat) (x y : VV) (u : Value), xs[j]? = some x → ys[j]? = some y → Qea P E H g x u → Qea P E (Hp (fin.map (·.2))) (g.out fin) y u
  | [], ys, acc, acc', h => by
    simp only [Qen, Option.some.injEq, Prod.mk.injEq] at h
    obtain ⟨rfl, rfl⟩ := h
    exact ⟨⟨[], by simp⟩, fun h => h, fun y hy => by simp at hy, rfl, fun E fin hf j x y u hx => by simp at hx⟩
  | x :: xs, ys, acc, acc', h => by
    simp only [Qen] at h
    split at h
    · rename_i y acc1 h1
      split at h
      · rename_i ys1 acc2 h2
        simp only [Option.some.injEq, Prod.mk.injEq] at h
        obtain ⟨rfl, rfl⟩ := h
        obtain ⟨⟨z1, e1⟩, a1, o1, r1⟩ := Xek (P := P) (g := g) h1
        obtain ⟨⟨z2, e2⟩, a2, o2, l2, r2⟩ := Xa6 h2
        refine ⟨⟨z1 ++ z2, by rw [e2, e1, List.append_assoc]⟩, fun h => a2 (a1 h), fun c hc => ?_, by simp [l2], fun E fin hf j x' y' u hx hy hu => ?_⟩
        · rcases List.mem_cons.1 hc with rfl | hc
          · exact o1
          · exact o2 c hc
        · cases j with
          | zero =>
            simp only [List.getElem?_cons_zero, Option.some.injEq] at hx hy
            subst hx; subst hy
            obtain ⟨z, rfl⟩ := hf
            exact r1 E _ ⟨z2 ++ z, by rw [e2, List.append_assoc]⟩ u hu
          | succ j => exact r2 E fin hf j x' y' u (by simpa using hx) (by simpa using hy) hu
      · cases h
    · cases h
theorem Xem {x y : VV} {acc acc' : List Out} (h : exA H x acc = some (y, acc')) : (∃ z, acc' = acc ++ z) ∧ (Qd3 H acc → Qd3 H acc') ∧ Qsf y = true ∧
    ∀ (E : Env) (fin : List Out), (∃ z, fin = acc' ++ z) → ∀ u, Qju P E H g x u → Qju P E (Hp (fin.map (·.2))) (g.out fin) y u := by
  by_cases ha : ∃ vs, x = .agg vs
  · obtain ⟨vs, rfl⟩ := ha
    simp only [exA] at h
    split at h
    · rename_i ys acc1 h1
      simp only [Option.some.injEq, Prod.mk.injEq] at h
      obtain ⟨rfl, rfl⟩ := h
      obtain ⟨e1, a1, o1, l1, r1⟩ := Xa6 (P := P) (g := g) h1
      refine ⟨e1, a1, by simpa [Qsf] using o1, fun E fin hf u hu => ?_⟩
      obtain ⟨cs, k1, k2, k3⟩ := hu
      refine ⟨cs, k1, by rw [k2, l1], fun j c v hc hv => ?_⟩
      have hlt : j < vs.length := by rw [← l1]; exact (List.getElem?_eq_some_iff.1 hc).1
      exact r1 E fin hf j _ c v (List.getElem?_eq_getElem hlt) hc (k3 j _ v (List.getElem?_eq_getElem hlt) hv)
    · cases h
  · have hne : ∀ vs, x ≠ .agg vs := fun vs hh => ha ⟨vs, hh⟩
    have h' : exC H x acc = some (y, acc') := by cases x <;> first | exact h | exact absurd rfl (hne _)
    obtain ⟨e1, a1, o1, r1⟩ := Xek (P := P) (g := g) h'
    refine ⟨e1, a1, ?_, fun E fin hf u hu => ?_⟩
    · cases y <;> first | exact o1 | (simp [Qoy] at o1; done)
    · rw [Qhd hne] at hu
      exact Qdc (r1 E fin hf u hu)
theorem Xcw : ∀ {xs ys : List VV} {acc acc' : List Out}, Qf0 H xs acc = some (ys, acc') → (∃ z, acc' = acc ++ z) ∧ (Qd3 H acc → Qd3 H acc') ∧ (∀ y ∈ ys, Qsf y = true) ∧ ys.length = xs.length ∧
    ∀ (E : Env) (fin : List Out), (∃ z, fin = acc' ++ z) → ∀ (j : Nat) (x y : VV) (u : Value), xs[j]? = some x → ys[j]? = some y → Qju P E H g x u → Qju P E (Hp (fin.map (·.2))) (g.out fin) y u
  | [], ys, acc, acc', h => by
    simp only [Qf0, Option.some.injEq, Prod.mk.injEq] at h
    obtain ⟨rfl, rfl⟩ := h
    exact ⟨⟨[], by simp⟩, fun h => h, fun y hy => by simp at hy, rfl, fun E fin hf j x y u hx => by simp at hx⟩
  | x :: xs, ys, acc, acc', h => by
    simp only [Qf0] at h
    split at h
    · rename_i y acc1 h1
      split at h
      · rename_i ys1 acc2 h2
        simp only [Option.some.injEq, Prod.mk.injEq] at h
        obtain ⟨rfl, rfl⟩ := h
        obtain ⟨⟨z1, e1⟩, a1, o1, r1⟩ := Xem (P := P) (g := g) h1
        obtain ⟨⟨z2, e2⟩, a2, o2, l2, r2⟩ := Xcw h2
        refine ⟨⟨z1 ++ z2, by rw [e2, e1, List.append_assoc]⟩, fun h => a2 (a1 h), fun c hc => ?_, by simp [l2], fun E fin hf j x' y' u hx hy hu => ?_⟩
        · rcases List.mem_cons.1 hc with rfl | hc
          · exact o1
          · exact o2 c hc
        · cases j with
          | zero =>
            simp only [List.getElem?_cons_zero, Option.some.injEq] at hx hy
            subst hx; subst hy
            obtain ⟨z, rfl⟩ := hf
            exact r1 E _ ⟨z2 ++ z, by rw [e2, List.append_assoc]⟩ u hu
          | succ j => exact r2 E fin hf j x' y' u (by simpa using hx) (by simpa using hy) hu
      · cases h
    · cases h
theorem Xha {x y : VV} {acc : List Out} (h : exV H x = some (y, acc)) : Qd3 H acc ∧ Qys y = true ∧ ∀ (E : Env) u, Qds P E H g x u → Qds P E (Hp (acc.map (·.2))) (g.out acc) y u := by
  have h0 : Qd3 H [] := fun j x hj => by simp at hj
  by_cases ha : ∃ vs, x = .tup vs
  · obtain ⟨vs, rfl⟩ := ha
    simp only [exV] at h
    split at h
    · rename_i ys acc1 h1
      simp only [Option.some.injEq, Prod.mk.injEq] at h
      obtain ⟨rfl, rfl⟩ := h
      obtain ⟨e1, a1, o1, l1, r1⟩ := Xcw (P := P) (g := g) h1
      refine ⟨a1 h0, by simpa [Qys] using o1, fun E u hu => ?_⟩
      obtain ⟨cs, k1, k2, k3⟩ := hu
      refine ⟨cs, k1, by rw [k2, l1], fun j c v hc hv => ?_⟩
      have hlt : j < vs.length := by rw [← l1]; exact (List.getElem?_eq_some_iff.1 hc).1
      exact r1 E _ ⟨[], by simp⟩ j _ c v (List.getElem?_eq_getElem hlt) hc (k3 j _ v (List.getElem?_eq_getElem hlt) hv)
    · cases h
  · have hne : ∀ vs, x ≠ .tup vs := fun vs hh => ha ⟨vs, hh⟩
    have h' : exA H x [] = some (y, acc) := by cases x <;> first | exact h | exact absurd rfl (hne _)
    obtain ⟨e1, a1, o1, r1⟩ := Xem (P := P) (g := g) h'
    refine ⟨a1 h0, ?_, fun E u hu => ?_⟩
    · cases y <;> first | exact o1 | (simp [Qsf, Qoy] at o1; done)
    · rw [Qf4 hne] at hu
      exact Qdd (r1 E _ ⟨[], by simp⟩ u hu)
theorem Qqq : ∀ {acc : List Out} (hn : (acc.filterMap (·.1)).Nodup) {j T : Nat} {x : TypeId × List (List PT)}, acc[j]? = some (some T, x) → acc.findIdx? (fun x => x.1 == some T) = some j
  | [], _, j, T, x, h => by simp at h
  | (t0, y) :: acc, hn, 0, T, x, h => by
    simp only [List.getElem?_cons_zero, Option.some.injEq, Prod.mk.injEq] at h
    obtain ⟨rfl, rfl⟩ := h
    simp [List.findIdx?_cons]
  | (t0, y) :: acc, hn, j + 1, T, x, h => by
    simp only [List.getElem?_cons_succ] at h
    have hmem : T ∈ acc.filterMap (·.1) := List.mem_filterMap.2 ⟨_, List.mem_of_getElem? h, rfl⟩
    have hne : (t0 == some T) = false := by
      cases t0 with
      | none => rfl
      | some t =>
        simp only [List.filterMap_cons_some (show (fun x : Out => x.1) (some t, y) = some t from rfl), List.nodup_cons] at hn
        have : t ≠ T := fun hh => hn.1 (hh ▸ hmem)
        simpa using this
    have hn' : (acc.filterMap (·.1)).Nodup := by
      cases t0 with
      | none => simpa using hn
      | some t =>
        simp only [List.filterMap_cons_some (show (fun x : Out => x.1) (some t, y) = some t from rfl), List.nodup_cons] at hn
        exact hn.2
    rw [List.findIdx?_cons]
    simp only [hne]
    rw [Qqq hn' h]
    rfl
theorem Xdb (h : HRel P E g H w) {acc : List Out} (ha : Qd3 H acc) (hn : (acc.filterMap (·.1)).Nodup) (hpur : ∀ x ∈ acc, Qbb x.2.2) : HRel P E (g.out acc) (Hp (acc.map (·.2))) w := by
  have hget : ∀ (j : Nat) (e : TypeId) (rows : List (List PT)), Hp (acc.map (·.2)) j = .root e rows → ∃ T, acc[j]? = some (T, e, rows) := by
    intro j e rows hj
    simp only [Hp, List.getElem?_map] at hj
    cases hx : acc[j]? with
    | none => rw [hx] at hj; simp at hj
    | some x =>
      obtain ⟨T, e', rows'⟩ := x
      rw [hx] at hj
      simp only [Option.map_some, Ent.root.injEq] at hj
      obtain ⟨rfl, rfl⟩ := hj
      exact ⟨T, rfl⟩
  refine ⟨h.frm, fun j e rows hj p e2 rows2 hat => ?_, fun j cs hj => ?_, fun j hj => ?_⟩
  · obtain ⟨T, hT⟩ := hget j e rows hj
    have hok := ha j _ hT
    have hpr : Qbb rows := hpur _ (List.mem_of_getElem? hT)
    have hpr2 : Qbb rows2 := Qik p (.list e rows) (.list _ _ hpr) e2 rows2 hat
    cases T with
    | none =>
      have : rows = [] := hok
      subst this
      cases p with
      | nil =>
        simp only [At, Option.some.injEq, Prod.mk.injEq] at hat
        obtain ⟨rfl, rfl⟩ := hat
        exact .inl ⟨by simp only [Gh.out, hT], rfl⟩
      | cons x q => obtain ⟨i, k⟩ := x; simp [At] at hat
    | some T =>
      obtain ⟨rows0, hroot, hlen, hrows⟩ := hok
      have hfind := Qqq hn hT
      have hown : ∀ b q, g.own b = some (T, q) → (g.out acc).own b = some (j, q) := fun b q hb => by
        simp only [Gh.out, hb, hfind, Option.map_some]
      cases p with
      | nil =>
        simp only [At, Option.some.injEq, Prod.mk.injEq] at hat
        obtain ⟨rfl, rfl⟩ := hat
        have hhd : (g.out acc).hd j [] = Qib rows.length (g.hd T []) := by simp only [Gh.out, hT, if_true]
        rcases h.node T e rows0 hroot [] e rows0 rfl with ⟨h1, h2⟩ | ⟨b, cap, cur, h1, h2, h3, h4, h5, h6, h7, h8⟩
        · subst h2
          have : rows = [] := by simpa using hrows
          subst this
          exact .inl ⟨by rw [hhd, h1]; rfl, rfl⟩
        · refine .inr ⟨b, cap, cur, by rw [hhd, h1]; rfl, hown b [] h2, h3, h4, by omega, h6, h7, fun i r hr => ?_⟩
          have hcp := hpr r (List.mem_of_getElem? hr)
          rw [hrows, List.getElem?_take] at hr
          split at hr
          · obtain ⟨h9, h10⟩ := h8 i r hr
            refine ⟨h9, fun k c hc => ?_⟩
            obtain ⟨u, h11, h12⟩ := h10 k c hc
            refine ⟨u, h11, ?_⟩
            have hhd2 : (g.out acc).hd j ([] ++ [(i, k)]) = g.hd T ([] ++ [(i, k)]) := by simp [Gh.out, hT]
            rw [hhd2]
            have := hcp c (List.mem_of_getElem? hc)
            cases this <;> exact h12
          · cases hr
      | cons x q =>
        obtain ⟨i0, j0⟩ := x
        have hat' : At ((i0, j0) :: q) (.list e rows0) = some (e2, rows2) := by
          simp only [At] at hat ⊢
          rw [hrows, List.getElem?_take] at hat
          split at hat
          · exact hat
          · simp at hat
        have hhd : ∀ q', (g.out acc).hd j ((i0, j0) :: q') = g.hd T ((i0, j0) :: q') := fun q' => by simp [Gh.out, hT]
        rcases h.node T e rows0 hroot _ e2 rows2 hat' with ⟨h1, h2⟩ | ⟨b, cap, cur, h1, h2, h3, h4, h5, h6, h7, h8⟩
        · exact .inl ⟨by rw [hhd]; exact h1, h2⟩
        · refine .inr ⟨b, cap, cur, by rw [hhd]; exact h1, hown b _ h2, h3, h4, h5, h6, h7, fun i r hr => ?_⟩
          obtain ⟨h9, h10⟩ := h8 i r hr
          refine ⟨h9, fun k c hc => ?_⟩
          obtain ⟨u, h11, h12⟩ := h10 k c hc
          refine ⟨u, h11, ?_⟩
          rw [List.cons_append, hhd]
          have := hpr2 r (List.mem_of_getElem? hr) c (List.mem_of_getElem? hc)
          cases this <;> exact h12
  · simp only [Hp] at hj
    split at hj <;> cases hj
  · have : j < acc.length := by
      rcases Nat.lt_or_ge j acc.length with hh | hh
      · exact hh
      · simp [Hp, hh, Ent.live] at hj
    simp [Gh.out, this]
def Qsc (tmps : Array Value) : ResultVar → Sem Value
  | .tmp t => pure (tmps.getD t undef)
  | .cell p t => do loadVar t (← asAddr (tmps.getD p undef))
theorem Qo5 (fn : Func) (tmps : Array Value) : results fn tmps = (do let vs ← fn.results.mapM (Qsc tmps); pure (if h : vs.size = 1 then vs[0] else .tuple vs)) := by
  unfold results
  congr 2
theorem Qgq (hT : Qeo P ty) (h : Rel P E g s a w) : ∀ (l : List ResultVar) (vs : List VV), Qcd ty s l = some vs →
    ∃ us : List Value, (l.mapM (Qsc a.tmps)).run P w = .ok us w ∧ us.length = vs.length ∧
      ∀ (j : Nat) (x : VV) (u : Value), vs[j]? = some x → us[j]? = some u → Qds P E s.H g x u
  | [], vs, hv => by
    simp only [Qcd, Option.some.injEq] at hv
    subst hv
    exact ⟨[], by simp, rfl, fun j x u hx => by simp at hx⟩
  | .tmp t :: rs, vs, hv => by
    simp only [Qcd] at hv
    split at hv
    · rename_i vs' hv'
      simp only [Option.some.injEq] at hv
      subst hv
      obtain ⟨us, h1, h2, h3⟩ := Qgq hT h rs vs' hv'
      refine ⟨a.tmps.getD t undef :: us, by simp only [List.mapM_cons, Qsc, Sem.run_bind, Sem.run_pure, Result.andThen_ok, h1], by simp [h2], fun j x u hx hu => ?_⟩
      cases j with
      | zero =>
        simp only [List.getElem?_cons_zero, Option.some.injEq] at hx hu
        subst hx; subst hu
        exact h.tmps t
      | succ j => exact h3 j x u (by simpa using hx) (by simpa using hu)
    · cases hv
  | .cell p t :: rs, vs, hv => by
    simp only [Qcd] at hv
    split at hv
    · rename_i v vs' hl hv'
      simp only [Option.some.injEq] at hv
      subst hv
      obtain ⟨us, h1, h2, h3⟩ := Qgq hT h rs vs' hv'
      obtain ⟨u0, k1, k2⟩ := Qwn hT h (h.tmps p) hl
      have k3 : (Qsc a.tmps (.cell p t)).run P w = .ok u0 w := by
        simp only [Qsc]
        generalize a.tmps.getD p undef = X at *
        cases X with
        | pointer q => cases q with
          | none => simp [Instr.loadAt, Instr.sureAddr, stuck] at k1
          | some q => simpa [Instr.loadAt, Instr.sureAddr, asAddr] using k1
        | _ => simp [Instr.loadAt, Instr.sureAddr, stuck] at k1
      refine ⟨u0 :: us, by simp only [List.mapM_cons, Sem.run_bind, k3, Sem.run_pure, Result.andThen_ok, h1], by simp [h2], fun j x u hx hu => ?_⟩
      cases j with
      | zero =>
        simp only [List.getElem?_cons_zero, Option.some.injEq] at hx hu
        subst hx; subst hu
        exact k2
      | succ j => exact h3 j x u (by simpa using hx) (by simpa using hu)
    · cases hv
theorem Xht {x y : VV} {acc acc' : List Out} (h : exA H x acc = some (y, acc')) : ∀ vs, x ≠ .tup vs := by
  rintro vs rfl
  simp [exA, exC] at h
theorem Xbx : ∀ {xs ys : List VV} {acc acc' : List Out}, Qf0 H xs acc = some (ys, acc') → ∀ x ∈ xs, ∀ vs, x ≠ .tup vs
  | [], ys, acc, acc', h => fun x hx => by simp at hx
  | x :: xs, ys, acc, acc', h => by
    simp only [Qf0] at h
    split at h
    · rename_i y acc1 h1
      split at h
      · rename_i ys1 acc2 h2
        intro z hz
        rcases List.mem_cons.1 hz with rfl | hz
        · exact Xht h1
        · exact Xbx h2 z hz
      · cases h
    · cases h
theorem Qxf (hT : Qeo P ty) (h : Rel P E g s a w) {fn : Func} {vs : List VV} (hv : Qcd ty s fn.results.toList = some vs) {H' : Qbi} {v : VV} {acc : List Out} (he : exV H' (wrap vs) = some (v, acc)) :
    ∃ val, (results fn a.tmps).run P w = .ok val w ∧ Qds P E s.H g (wrap vs) val := by
  obtain ⟨us, h1, h2, h3⟩ := Qgq hT h _ _ hv
  have hr : (results fn a.tmps).run P w = .ok (if h : us.toArray.size = 1 then us.toArray[0] else .tuple us.toArray) w := by
    rw [Qo5, Array.mapM_eq_mapM_toList]
    simp only [Sem.run_bind, Sem.run_map, h1, Result.andThen_ok, Sem.run_pure]
  refine ⟨_, hr, ?_⟩
  match vs, us, h2, h3, he with
  | [], [], _, _, _ => exact Qlz
  | [x], [u], _, h3, _ => exact h3 0 x u rfl rfl
  | x :: y :: vs, u1 :: u2 :: us, h2, h3, he =>
    have hw : wrap (x :: y :: vs) = .tup (x :: y :: vs) := rfl
    rw [hw] at he ⊢
    have hd : ¬ (u1 :: u2 :: us).toArray.size = 1 := by simp
    rw [dif_neg hd]
    refine ⟨_, rfl, h2, fun j c u hc hu => ?_⟩
    have := h3 j c u hc hu
    simp only [exV] at he
    split at he
    · rename_i ys acc1 h1
      have hne := Xbx h1 c (List.mem_of_getElem? hc)
      rwa [Qf4 hne] at this
    · cases he
def St.init (args : List VV) (n : Nat) : St := ⟨fun t => (args[t]?).getD .any, fun _ => .dead, 0, n, none⟩
def Qdb (P : Program) (ty : Ty) (rs : List ResultVar) (v : VV) (l : List (TypeId × List (List PT))) : Exit → St → Prop
  | .normal, s => Qbk P ty rs v l s
  | .ret, s => Qbk P ty rs v l s
  | _, _ => False
def Qrb (E : Env) (m : Nat) : Prop := ∀ g H g' H', (∀ T, T < m → (g.sn T = true → g'.sn T = true) ∧ (∀ e rows', H' T = .root e rows' → ∃ rows, H T = .root e rows) ∧ ((H' T).live = true → (H T).live = true) ∧ g'.hd T [] = g.hd T [] ∧ g'.bx T = g.bx T) → E.pin g H → E.pin g' H'
theorem Qsn (hT : Qeo P ty) {f : FuncId} {fn : Func} {c : Code} {args : List VV} {v : VV} {l : List (TypeId × List (List PT))} (hf : P.funcs[f]? = some fn) (hname : (fn.name == "runtime.NumGoroutine") = false)
    (hb : fn.body = some c) {rs : List ResultVar} (hrs : fn.results.toList = rs) {n : Nat} (hn : fn.ntmps = n) (hlen : args.length ≤ n) (hout : Qys v = true) (hpur : ∀ x ∈ l, Qbb x.2)
    (hbody : ∀ E, Qrb E 0 → VWP P E c (Qdb P ty rs v l) (St.init args n)) : SatP P f args v l := by
  subst hrs
  subst hn
  refine ⟨⟨fn, hf, hname, by rw [hb]; rfl⟩, hout, hpur, fun w vals hvl hva => ?_⟩
  have hrel : Rel P (Qcv w) Gh.nil (St.init args fn.ntmps) { tmps := vals.toArray ++ Array.replicate (fn.ntmps - vals.toArray.size) undef, defers := [] } w := by
    refine ⟨by simp [St.init]; omega, rfl, ⟨Frm.refl _, fun T e rows h => (by cases h), fun T cs h => (by cases h), fun T h => (by cases h)⟩, fun _ _ => rfl, fun t => ?_, trivial⟩
    simp only [St.init]
    cases ht : args[t]? with
    | none => trivial
    | some x =>
      have hlt : t < vals.length := by rw [hvl]; exact (List.getElem?_eq_some_iff.1 ht).1
      have hu : (vals.toArray ++ Array.replicate (fn.ntmps - vals.toArray.size) undef).getD t undef = vals[t] := by
        rw [Array.getD_eq_getD_getElem?, Array.getElem?_append_left (by simpa using hlt)]
        simp [hlt]
      rw [hu]
      exact Qdd (hva t x _ ht (List.getElem?_eq_getElem hlt))
  refine calls_of_wp hf hb (Go.wp_mono (hbody _ (fun _ _ _ _ _ _ => trivial) _ _ _ hrel) fun e a w' he => ?_)
  have key : ∀ g s, Rel P (Qcv w) g s a w' → Qbk P ty fn.results.toList v l s → a.defers = [] ∧ ∃ val, (results fn a.tmps).run P w' = .ok val w' ∧
      ∃ val' g', Ending.returned val = .returned val' ∧ HRel P (Qcv w) g' (Hp l) w' ∧ (∀ T, l.length ≤ T → g'.sn T = false) ∧ Qds P (Qcv w) (Hp l) g' v val' := by
    intro g s h hr
    obtain ⟨ms, H', vs, acc, h0, h1, h2, h3, rfl, h5⟩ := hr
    obtain ⟨val, k1, k2⟩ := Qxf hT h h1 h2
    obtain ⟨g1, j1, j2⟩ := Qff h h0
    have k2 := Qi5 j2 k2
    obtain ⟨m1, m2, m3⟩ := Xha (P := P) (g := g1) h2
    refine ⟨h.defers, val, k1, val, g1.out acc, rfl, Xdb j1.heap m1 h3 (fun x hx => h5 _ (List.mem_map_of_mem hx)), fun T hT => ?_, m3 _ _ k2⟩
    have : ¬ T < acc.length := by simpa using hT
    simp [Gh.out, this]
  cases e with
  | normal => obtain ⟨g, s, h1, h2⟩ := he; exact key g s h1 h2
  | ret => obtain ⟨g, s, h1, h2⟩ := he; exact key g s h1 h2
  | exit i => obtain ⟨g, s, h1, h2⟩ := he; exact h2
  | _ => exact he.elim
end
def Qov (m : Nat) (H : Qbi) (kb : Bool) (x : VV) (acc : List Out) : Option (VV × List Out) :=
  match x with
  | .rf T n => if T < m then some (.rf T n, acc) else match H T with
    | .root e rows => if n ≤ rows.length then some (.rf (m + acc.length) n, acc ++ [(some T, e, rows.take n)]) else none
    | _ => none
  | .nl e => if kb = true then some (.nl e, acc) else some (.rf (m + acc.length) 0, acc ++ [(none, e, [])])
  | .int k n => some (.int k n, acc)
  | .bool b => some (.bool b, acc)
  | .str s => some (.str s, acc)
  | .err b => some (.err b, acc)
  | .any => some (.any, acc)
  | _ => none
def Qky (m : Nat) (H : Qbi) (kb : Bool) : List VV → List Out → Option (List VV × List Out)
  | [], acc => some ([], acc)
  | x :: xs, acc => match Qov m H kb x acc with
    | some (y, acc) => match Qky m H kb xs acc with
      | some (ys, acc) => some (y :: ys, acc)
      | none => none
    | none => none
def Qtx (m : Nat) (H : Qbi) (x : VV) (acc : List Out) : Option (VV × List Out) :=
  match x with
  | .agg vs => match Qky m H false vs acc with
    | some (ys, acc) => some (.agg ys, acc)
    | none => none
  | x => Qov m H false x acc
def Qto (m : Nat) (H : Qbi) : List VV → List Out → Option (List VV × List Out)
  | [], acc => some ([], acc)
  | x :: xs, acc => match Qtx m H x acc with
    | some (y, acc) => match Qto m H xs acc with
      | some (ys, acc) => some (y :: ys, acc)
      | none => none
    | none => none
def Qtw (m : Nat) (H : Qbi) (x : VV) (acc : List Out) : Option (VV × List Out) :=
  match x with
  | .tup vs => match Qto m H vs acc with
    | some (ys, acc) => some (.tup ys, acc)
    | none => none
  | x => Qtx m H x acc
def Qu3 (m : Nat) (H : Qbi) : List Ent → List Out → Option (List Ent × List Out)
  | [], acc => some ([], acc)
  | .box cs :: xs, acc => match Qky m H true cs acc with
    | some (ys, acc) => match Qu3 m H xs acc with
      | some (zs, acc) => some (.box ys :: zs, acc)
      | none => none
    | none => none
  | x :: xs, acc => match Qu3 m H xs acc with
    | some (zs, acc) => some (x :: zs, acc)
    | none => none
def Qcz (x : Out) : Ent := .root x.2.1 x.2.2
def Gh.outO (g : Gh) (m : Nat) (acc : List Out) : Gh :=
  { hd := fun j p => if j < m then g.hd j p else match acc[j - m]? with
      | some (some T, _, rows) => if p = [] then Qib rows.length (g.hd T []) else g.hd T p
      | some (none, _, _) => .slice none 0 0
      | none => undef
    bx := g.bx
    own := fun b => match g.own b with
      | some (T, p) => if T < m then some (T, p) else (acc.findIdx? fun x => x.1 == some T).map fun j => (m + j, p)
      | none => none
    ob := g.ob
    sn := fun j => if j < m then g.sn j else decide (j < m + acc.length) }
def Qg5 (m : Nat) (acc : List Out) : Prop := ∀ x ∈ acc, ∀ T, x.1 = some T → m ≤ T
def Qbc : List Ent → List Ent → Prop
  | [], O => ∀ y ∈ O, Qbg y
  | x :: I, y :: O => Qa6 x y ∧ Qbc I O
  | _ :: _, [] => False
def Qc4 (P : Program) (ty : Ty) (rs : List ResultVar) (m : Nat) (v : VV) (O : List Ent) (s : St) : Prop :=
  ∃ ms H' Ks K2 acc1 vs acc, Qb1 ms s.H = some H' ∧ Ks.length = m ∧ (∀ (k : Nat) (x : Ent), Ks[k]? = some x → H' k = x) ∧ Qu3 m H' Ks [] = some (K2, acc1) ∧ Qcd ty s rs = some vs ∧ Qtw m H' (wrap vs) acc1 = some (v, acc) ∧
    (acc.filterMap (·.1)).Nodup ∧ K2 ++ acc.map Qcz = O
section
variable {P : Program} {E : Env} {g g' : Gh} {s : St} {a : Act} {w w' : World} {ty : Ty} {H : Qbi} {m : Nat}
theorem Qn5 : ∀ {I O : List Ent}, Qbc I O → I.length ≤ O.length ∧ (∀ (k : Nat) (x y : Ent), I[k]? = some x → O[k]? = some y → Qa6 x y) ∧ ∀ (k : Nat) (y : Ent), I.length ≤ k → O[k]? = some y → Qbg y
  | [], O, h => ⟨Nat.zero_le _, fun k x y hx => by simp at hx, fun k y _ hy => h y (List.mem_of_getElem? hy)⟩
  | x :: I, [], h => h.elim
  | x :: I, y :: O, h => by
    obtain ⟨h1, h2⟩ := h
    obtain ⟨k1, k2, k3⟩ := Qn5 h2
    refine ⟨by simpa using k1, fun k a b ha hb => ?_, fun k b hk hb => ?_⟩
    · cases k with
      | zero => simp only [List.getElem?_cons_zero, Option.some.injEq] at ha hb; subst ha; subst hb; exact h1
      | succ k => exact k2 k a b (by simpa using ha) (by simpa using hb)
    · cases k with
      | zero => simp at hk
      | succ k => exact k3 k b (by simpa using hk) (by simpa using hb)
theorem Qlu {K2 : List Ent} (hl : K2.length = m) (fin : List Out) (T : Nat) : HpE (K2 ++ fin.map Qcz) T = if T < m then (K2[T]?).getD .dead else ((fin[T - m]?).map Qcz).getD .dead := by
  simp only [HpE, List.getElem?_append, hl, List.getElem?_map]
  split <;> rfl
theorem Qoq {acc : List Out} {x : Out} (h : Qg5 m acc) (hx : ∀ T, x.1 = some T → m ≤ T) : Qg5 m (acc ++ [x]) := by
  intro y hy T hT
  rcases List.mem_append.1 hy with hy | hy
  · exact h y hy T hT
  · simp only [List.mem_singleton] at hy; subst hy; exact hx T hT
def Qrw (H : Qbi) (K2 : List Ent) : Prop := ∀ (T : Nat), ((K2[T]?).getD .dead).isRoot = true → (H T).isRoot = true
theorem Xb4 {kb : Bool} {x y : VV} {acc acc' : List Out} (h : Qov m H kb x acc = some (y, acc')) : (∃ z, acc' = acc ++ z) ∧ (Qd3 H acc → Qd3 H acc') ∧ (Qg5 m acc → Qg5 m acc') ∧ Qcr y = true ∧ (kb = false → Qoy y = true) ∧
    ∀ (E : Env) (fin : List Out) (K2 : List Ent), (∃ z, fin = acc' ++ z) → K2.length = m → Qrw H K2 → ∀ u, Qea P E H g x u → Qea P E (HpE (K2 ++ fin.map Qcz)) (g.outO m fin) y u := by
  have triv : ∀ {x : VV}, Qcr x = true → (kb = false → Qoy x = true) → (∀ T n, x ≠ .rf T n) → x = y ∧ acc = acc' → (∃ z, acc' = acc ++ z) ∧ (Qd3 H acc → Qd3 H acc') ∧ (Qg5 m acc → Qg5 m acc') ∧ Qcr y = true ∧ (kb = false → Qoy y = true) ∧
    ∀ (E : Env) (fin : List Out) (K2 : List Ent), (∃ z, fin = acc' ++ z) → K2.length = m → Qrw H K2 → ∀ u, Qea P E H g x u → Qea P E (HpE (K2 ++ fin.map Qcz)) (g.outO m fin) y u := by
    intro x ho ho2 hn he
    obtain ⟨rfl, rfl⟩ := he
    refine ⟨⟨[], by simp⟩, fun h => h, fun h => h, ho, ho2, fun E fin K2 hf _ _ u hu => ?_⟩
    cases x <;> first | exact hu | exact absurd rfl (hn _ _) | (simp [Qcr] at ho; done)
  unfold Qov at h
  split at h
  · rename_i T n
    split at h
    · rename_i hTm
      simp only [Option.some.injEq, Prod.mk.injEq] at h
      obtain ⟨rfl, rfl⟩ := h
      refine ⟨⟨[], by simp⟩, fun h => h, fun h => h, rfl, fun _ => rfl, fun E fin K2 hf hl hk u hu => ?_⟩
      obtain ⟨h1, h2, h3⟩ := hu
      refine ⟨by simp only [Gh.outO, if_pos hTm]; exact h1, h2, fun hr => ?_⟩
      rw [Qlu hl, if_pos hTm] at hr
      simp only [Gh.outO, if_pos hTm]
      exact h3 (hk T hr)
    · rename_i hTm
      split at h
      · rename_i e rows hT
        split at h
        · rename_i hle
          simp only [Option.some.injEq, Prod.mk.injEq] at h
          obtain ⟨rfl, rfl⟩ := h
          have hl : (rows.take n).length = n := by simp; omega
          refine ⟨⟨_, rfl⟩, fun h => Qh8 h (fun j x hj => ?_), fun h => Qoq h (fun T' hT' => by injection hT' with hT'; omega), rfl, fun _ => rfl, fun E fin K2 hf hl2 hk u hu => ?_⟩
          · cases j with
            | zero =>
              simp only [List.getElem?_cons_zero, Option.some.injEq] at hj
              subst hj
              exact ⟨rows, hT, by rw [hl]; exact hle, by rw [hl]⟩
            | succ j => simp at hj
          · obtain ⟨z, rfl⟩ := hf
            obtain ⟨h1, h2, h3⟩ := hu
            have hnm : ¬ m + acc.length < m := by omega
            refine ⟨by simp [Gh.outO], h2, fun _ => ?_⟩
            have hget : (acc ++ [(some T, e, rows.take n)] ++ z)[m + acc.length - m]? = some (some T, e, rows.take n) := by
              rw [Nat.add_sub_cancel_left]; simp
            simp only [Gh.outO, if_neg hnm, hget, if_true, hl]
            rw [Qr9]
            exact h3 (by simp [hT, Ent.isRoot])
        · cases h
      · cases h
  · rename_i e
    split at h
    · rename_i hkb
      simp only [Option.some.injEq, Prod.mk.injEq] at h
      exact triv rfl (fun hh => by rw [hkb] at hh; cases hh) (fun _ _ hh => by cases hh) h
    · simp only [Option.some.injEq, Prod.mk.injEq] at h
      obtain ⟨rfl, rfl⟩ := h
      refine ⟨⟨_, rfl⟩, fun h => Qh8 h (fun j x hj => ?_), fun h => Qoq h (fun T' hT' => by cases hT'), rfl, fun _ => rfl, fun E fin K2 hf hl hk u hu => ?_⟩
      · cases j with
        | zero =>
          simp only [List.getElem?_cons_zero, Option.some.injEq] at hj
          subst hj
          rfl
        | succ j => simp at hj
      · obtain ⟨z, rfl⟩ := hf
        have hu : u = .slice none 0 0 := hu
        subst hu
        have hnm : ¬ m + acc.length < m := by omega
        have hget : (acc ++ [(none, e, [])] ++ z)[m + acc.length - m]? = some (none, e, []) := by
          rw [Nat.add_sub_cancel_left]; simp
        refine ⟨by simp [Gh.outO], rfl, fun _ => ?_⟩
        simp only [Gh.outO, if_neg hnm, hget]
        rfl
  all_goals first
    | (simp only [Option.some.injEq, Prod.mk.injEq] at h; exact triv rfl (fun _ => rfl) (fun _ _ hh => by cases hh) h)
    | cases h
theorem Qqf {kb : Bool} : ∀ {xs ys : List VV} {acc acc' : List Out}, Qky m H kb xs acc = some (ys, acc') → (∃ z, acc' = acc ++ z) ∧ (Qd3 H acc → Qd3 H acc') ∧ (Qg5 m acc → Qg5 m acc') ∧ (∀ y ∈ ys, Qcr y = true ∧ (kb = false → Qoy y = true)) ∧ ys.length = xs.length ∧
    ∀ (E : Env) (fin : List Out) (K2 : List Ent), (∃ z, fin = acc' ++ z) → K2.length = m → Qrw H K2 → ∀ (j : Nat) (x y : VV) (u : Value), xs[j]? = some x → ys[j]? = some y → Qea P E H g x u → Qea P E (HpE (K2 ++ fin.map Qcz)) (g.outO m fin) y u
  | [], ys, acc, acc', h => by
    simp only [Qky, Option.some.injEq, Prod.mk.injEq] at h
    obtain ⟨rfl, rfl⟩ := h
    exact ⟨⟨[], by simp⟩, fun h => h, fun h => h, fun y hy => by simp at hy, rfl, fun E fin K2 hf _ _ j x y u hx => by simp at hx⟩
  | x :: xs, ys, acc, acc', h => by
    simp only [Qky] at h
    split at h
    · rename_i y acc1 h1
      split at h
      · rename_i ys1 acc2 h2
        simp only [Option.some.injEq, Prod.mk.injEq] at h
        obtain ⟨rfl, rfl⟩ := h
        obtain ⟨⟨z1, e1⟩, a1, b1, o1, o1', r1⟩ := Xb4 (P := P) (g := g) h1
        obtain ⟨⟨z2, e2⟩, a2, b2, o2, l2, r2⟩ := Qqf h2
        refine ⟨⟨z1 ++ z2, by rw [e2, e1, List.append_assoc]⟩, fun h => a2 (a1 h), fun h => b2 (b1 h), fun c hc => ?_, by simp [l2], fun E fin K2 hf hl hk j x' y' u hx hy hu => ?_⟩
        · rcases List.mem_cons.1 hc with rfl | hc
          · exact ⟨o1, o1'⟩
          · exact o2 c hc
        · cases j with
          | zero =>
            simp only [List.getElem?_cons_zero, Option.some.injEq] at hx hy
            subst hx; subst hy
            obtain ⟨z, rfl⟩ := hf
            exact r1 E _ K2 ⟨z2 ++ z, by rw [e2, List.append_assoc]⟩ hl hk u hu
          | succ j => exact r2 E fin K2 hf hl hk j x' y' u (by simpa using hx) (by simpa using hy) hu
      · cases h
    · cases h
theorem Xax {x y : VV} {acc acc' : List Out} (h : Qtx m H x acc = some (y, acc')) : (∃ z, acc' = acc ++ z) ∧ (Qd3 H acc → Qd3 H acc') ∧ (Qg5 m acc → Qg5 m acc') ∧ Qsf y = true ∧
    ∀ (E : Env) (fin : List Out) (K2 : List Ent), (∃ z, fin = acc' ++ z) → K2.length = m → Qrw H K2 → ∀ u, Qju P E H g x u → Qju P E (HpE (K2 ++ fin.map Qcz)) (g.outO m fin) y u := by
  by_cases ha : ∃ vs, x = .agg vs
  · obtain ⟨vs, rfl⟩ := ha
    simp only [Qtx] at h
    split at h
    · rename_i ys acc1 h1
      simp only [Option.some.injEq, Prod.mk.injEq] at h
      obtain ⟨rfl, rfl⟩ := h
      obtain ⟨e1, a1, b1, o1, l1, r1⟩ := Qqf (P := P) (g := g) h1
      refine ⟨e1, a1, b1, by simp only [Qsf, List.all_eq_true]; exact fun y hy => (o1 y hy).2 rfl, fun E fin K2 hf hl hk u hu => ?_⟩
      obtain ⟨cs, k1, k2, k3⟩ := hu
      refine ⟨cs, k1, by rw [k2, l1], fun j c v hc hv => ?_⟩
      have hlt : j < vs.length := by rw [← l1]; exact (List.getElem?_eq_some_iff.1 hc).1
      exact r1 E fin K2 hf hl hk j _ c v (List.getElem?_eq_getElem hlt) hc (k3 j _ v (List.getElem?_eq_getElem hlt) hv)
    · cases h
  · have hne : ∀ vs, x ≠ .agg vs := fun vs hh => ha ⟨vs, hh⟩
    have h' : Qov m H false x acc = some (y, acc') := by cases x <;> first | exact h | exact absurd rfl (hne _)
    obtain ⟨e1, a1, b1, o1, o2, r1⟩ := Xb4 (P := P) (g := g) h'
    have o2 := o2 rfl
    refine ⟨e1, a1, b1, ?_, fun E fin K2 hf hl hk u hu => ?_⟩
    · cases y <;> first | exact o2 | (simp [Qoy] at o2; done)
    · rw [Qhd hne] at hu
      exact Qdc (r1 E fin K2 hf hl hk u hu)
theorem Qwb : ∀ {xs ys : List VV} {acc acc' : List Out}, Qto m H xs acc = some (ys, acc') → (∃ z, acc' = acc ++ z) ∧ (Qd3 H acc → Qd3 H acc') ∧ (Qg5 m acc → Qg5 m acc') ∧ (∀ y ∈ ys, Qsf y = true) ∧ ys.length = xs.length ∧
    ∀ (E : Env) (fin : List Out) (K2 : List Ent), (∃ z, fin = acc' ++ z) → K2.length = m → Qrw H K2 → ∀ (j : Nat) (x y : VV) (u : Value), xs[j]? = some x → ys[j]? = some y → Qju P E H g x u → Qju P E (HpE (K2 ++ fin.map Qcz)) (g.outO m fin) y u
  | [], ys, acc, acc', h => by
    simp only [Qto, Option.some.injEq, Prod.mk.injEq] at h
    obtain ⟨rfl, rfl⟩ := h
    exact ⟨⟨[], by simp⟩, fun h => h, fun h => h, fun y hy => by simp at hy, rfl, fun E fin K2 hf _ _ j x y u hx => by simp at hx⟩
  | x :: xs, ys, acc, acc', h => by
    simp only [Qto] at h
    split at h
    · rename_i y acc1 h1
      split at h
      · rename_i ys1 acc2 h2
        simp only [Option.some.injEq, Prod.mk.injEq] at h
        obtain ⟨rfl, rfl⟩ := h
        obtain ⟨⟨z1, e1⟩, a1, b1, o1, r1⟩ := Xax (P := P) (g := g) h1
        obtain ⟨⟨z2, e2⟩, a2, b2, o2, l2, r2⟩ := Qwb h2
        refine ⟨⟨z1 ++ z2, by rw [e2, e1, List.append_assoc]⟩, fun h => a2 (a1 h), fun h => b2 (b1 h), fun c hc => ?_, by simp [l2], fun E fin K2 hf hl hk j x' y' u hx hy hu => ?_⟩
        · rcases List.mem_cons.1 hc with rfl | hc
          · exact o1
          · exact o2 c hc
        · cases j with
          | zero =>
            simp only [List.getElem?_cons_zero, Option.some.injEq] at hx hy
            subst hx; subst hy
            obtain ⟨z, rfl⟩ := hf
            exact r1 E _ K2 ⟨z2 ++ z, by rw [e2, List.append_assoc]⟩ hl hk u hu
          | succ j => exact r2 E fin K2 hf hl hk j x' y' u (by simpa using hx) (by simpa using hy) hu
      · cases h
    · cases h
theorem Xfx {x y : VV} {acc acc' : List Out} (h : Qtw m H x acc = some (y, acc')) : (∃ z, acc' = acc ++ z) ∧ (Qd3 H acc → Qd3 H acc') ∧ (Qg5 m acc → Qg5 m acc') ∧
    ∀ (E : Env) (K2 : List Ent), K2.length = m → Qrw H K2 → ∀ u, Qds P E H g x u → Qds P E (HpE (K2 ++ acc'.map Qcz)) (g.outO m acc') y u := by
  by_cases ha : ∃ vs, x = .tup vs
  · obtain ⟨vs, rfl⟩ := ha
    simp only [Qtw] at h
    split at h
    · rename_i ys acc1 h1
      simp only [Option.some.injEq, Prod.mk.injEq] at h
      obtain ⟨rfl, rfl⟩ := h
      obtain ⟨e1, a1, b1, o1, l1, r1⟩ := Qwb (P := P) (g := g) h1
      refine ⟨e1, a1, b1, fun E K2 hl hk u hu => ?_⟩
      obtain ⟨cs, k1, k2, k3⟩ := hu
      refine ⟨cs, k1, by rw [k2, l1], fun j c v hc hv => ?_⟩
      have hlt : j < vs.length := by rw [← l1]; exact (List.getElem?_eq_some_iff.1 hc).1
      exact r1 E _ K2 ⟨[], by simp⟩ hl hk j _ c v (List.getElem?_eq_getElem hlt) hc (k3 j _ v (List.getElem?_eq_getElem hlt) hv)
    · cases h
  · have hne : ∀ vs, x ≠ .tup vs := fun vs hh => ha ⟨vs, hh⟩
    have h' : Qtx m H x acc = some (y, acc') := by cases x <;> first | exact h | exact absurd rfl (hne _)
    obtain ⟨e1, a1, b1, o1, r1⟩ := Xax (P := P) (g := g) h'
    refine ⟨e1, a1, b1, fun E K2 hl hk u hu => ?_⟩
    rw [Qf4 hne] at hu
    exact Qdd (r1 E _ K2 ⟨[], by simp⟩ hl hk u hu)
theorem Xfy {x y : VV} {acc acc' : List Out} (h : Qtx m H x acc = some (y, acc')) : ∀ vs, x ≠ .tup vs := by
  rintro vs rfl
  simp [Qtx, Qov] at h
theorem Qwr : ∀ {xs ys : List VV} {acc acc' : List Out}, Qto m H xs acc = some (ys, acc') → ∀ x ∈ xs, ∀ vs, x ≠ .tup vs
  | [], ys, acc, acc', h => fun x hx => by simp at hx
  | x :: xs, ys, acc, acc', h => by
    simp only [Qto] at h
    split at h
    · rename_i y acc1 h1
      split at h
      · rename_i ys1 acc2 h2
        intro z hz
        rcases List.mem_cons.1 hz with rfl | hz
        · exact Xfy h1
        · exact Qwr h2 z hz
      · cases h
    · cases h
theorem Qp1 : ∀ {Ks K2 : List Ent} {acc acc' : List Out}, Qu3 m H Ks acc = some (K2, acc') → (∃ z, acc' = acc ++ z) ∧ (Qd3 H acc → Qd3 H acc') ∧ (Qg5 m acc → Qg5 m acc') ∧ K2.length = Ks.length ∧
    (∀ (k : Nat) (y : Ent), K2[k]? = some y → ∃ x, Ks[k]? = some x ∧ match y with
      | .dead => True
      | .root e rows => x = .root e rows
      | .box ys => ∃ cs, x = .box cs ∧ ys.length = cs.length ∧ ∀ (E : Env) (fin : List Out) (K3 : List Ent), (∃ z, fin = acc' ++ z) → K3.length = m → Qrw H K3 → ∀ (j : Nat) (c d : VV) (u : Value), cs[j]? = some c → ys[j]? = some d → Qea P E H g c u → Qea P E (HpE (K3 ++ fin.map Qcz)) (g.outO m fin) d u)
  | [], K2, acc, acc', h => by
    simp only [Qu3, Option.some.injEq, Prod.mk.injEq] at h
    obtain ⟨rfl, rfl⟩ := h
    exact ⟨⟨[], by simp⟩, fun h => h, fun h => h, rfl, fun k y hy => by simp at hy⟩
  | .box cs :: xs, K2, acc, acc', h => by
    simp only [Qu3] at h
    split at h
    · rename_i ys acc1 h1
      split at h
      · rename_i zs acc2 h2
        simp only [Option.some.injEq, Prod.mk.injEq] at h
        obtain ⟨rfl, rfl⟩ := h
        obtain ⟨⟨z1, e1⟩, a1, b1, o1, l1, r1⟩ := Qqf (P := P) (g := g) h1
        obtain ⟨⟨z2, e2⟩, a2, b2, l2, r2⟩ := Qp1 h2
        refine ⟨⟨z1 ++ z2, by rw [e2, e1, List.append_assoc]⟩, fun h => a2 (a1 h), fun h => b2 (b1 h), by simp [l2], fun k y hy => ?_⟩
        cases k with
        | zero =>
          simp only [List.getElem?_cons_zero, Option.some.injEq] at hy
          subst hy
          refine ⟨_, rfl, cs, rfl, l1, fun E fin K3 hf hl hk j c d u hc hd hu => ?_⟩
          obtain ⟨z, rfl⟩ := hf
          exact r1 E _ K3 ⟨z2 ++ z, by rw [e2, List.append_assoc]⟩ hl hk j c d u hc hd hu
        | succ k => exact r2 k y (by simpa using hy)
      · cases h
    · cases h
  | .root e rows :: xs, K2, acc, acc', h => by
    simp only [Qu3] at h
    split at h
    · rename_i zs acc2 h2
      simp only [Option.some.injEq, Prod.mk.injEq] at h
      obtain ⟨rfl, rfl⟩ := h
      obtain ⟨e2, a2, b2, l2, r2⟩ := Qp1 h2
      refine ⟨e2, a2, b2, by simp [l2], fun k y hy => ?_⟩
      cases k with
      | zero =>
        simp only [List.getElem?_cons_zero, Option.some.injEq] at hy
        subst hy
        exact ⟨_, rfl, rfl⟩
      | succ k => exact r2 k y (by simpa using hy)
    · cases h
  | .dead :: xs, K2, acc, acc', h => by
    simp only [Qu3] at h
    split at h
    · rename_i zs acc2 h2
      simp only [Option.some.injEq, Prod.mk.injEq] at h
      obtain ⟨rfl, rfl⟩ := h
      obtain ⟨e2, a2, b2, l2, r2⟩ := Qp1 h2
      refine ⟨e2, a2, b2, by simp [l2], fun k y hy => ?_⟩
      cases k with
      | zero =>
        simp only [List.getElem?_cons_zero, Option.some.injEq] at hy
        subst hy
        exact ⟨_, rfl, trivial⟩
      | succ k => exact r2 k y (by simpa using hy)
    · cases h
theorem Xb7 (h : HRel P E g H w) {acc : List Out} (ha : Qd3 H acc) (hn : (acc.filterMap (·.1)).Nodup) (hge : Qg5 m acc) (hpur : ∀ x ∈ acc, Qbb x.2.2) {K2 : List Ent} (hl : K2.length = m)
    (hK : ∀ (k : Nat) (y : Ent), K2[k]? = some y → match y with
      | .dead => True
      | .root e rows => H k = .root e rows ∧ Qbb rows
      | .box ys => ∃ cs, H k = .box cs ∧ ys.length = cs.length ∧ ∀ (j : Nat) (c d : VV) (u : Value), cs[j]? = some c → ys[j]? = some d → Qea P E H g c u → Qea P E (HpE (K2 ++ acc.map Qcz)) (g.outO m acc) d u) :
    HRel P E (g.outO m acc) (HpE (K2 ++ acc.map Qcz)) w := by
  refine ⟨h.frm, fun j e rows hj p e2 rows2 hat => ?_, fun j cs hj => ?_, fun j hj => ?_⟩
  · rw [Qlu hl] at hj
    by_cases hjm : j < m
    · rw [if_pos hjm] at hj
      have hget : K2[j]? = some K2[j] := List.getElem?_eq_getElem (by omega)
      rw [hget, Option.getD_some] at hj
      have hk := hK j _ hget
      rw [hj] at hk
      obtain ⟨hroot, hpr⟩ := hk
      have hpr2 : Qbb rows2 := Qik p (.list e rows) (.list _ _ hpr) e2 rows2 hat
      have hhd : ∀ q, (g.outO m acc).hd j q = g.hd j q := fun q => by simp only [Gh.outO, if_pos hjm]
      rcases h.node j e rows hroot p e2 rows2 hat with ⟨h1, h2⟩ | ⟨b, cap, cur, h1, h2, h3, h4, h5, h6, h7, h8⟩
      · exact .inl ⟨by rw [hhd]; exact h1, h2⟩
      · refine .inr ⟨b, cap, cur, by rw [hhd]; exact h1, by simp only [Gh.outO, h2, if_pos hjm], h3, h4, h5, h6, h7, fun i r hr => ?_⟩
        obtain ⟨h9, h10⟩ := h8 i r hr
        refine ⟨h9, fun k c hc => ?_⟩
        obtain ⟨u, h11, h12⟩ := h10 k c hc
        refine ⟨u, h11, ?_⟩
        rw [hhd]
        have := hpr2 r (List.mem_of_getElem? hr) c (List.mem_of_getElem? hc)
        cases this <;> exact h12
    · rw [if_neg hjm] at hj
      obtain ⟨T, hT⟩ : ∃ T, acc[j - m]? = some (T, e, rows) := by
        cases hx : acc[j - m]? with
        | none => rw [hx] at hj; cases hj
        | some x =>
          obtain ⟨T, e', rows'⟩ := x
          rw [hx] at hj
          simp only [Option.map_some, Qcz, Option.getD_some, Ent.root.injEq] at hj
          obtain ⟨rfl, rfl⟩ := hj
          exact ⟨T, rfl⟩
      have hok := ha (j - m) _ hT
      have hpr : Qbb rows := hpur _ (List.mem_of_getElem? hT)
      have hpr2 : Qbb rows2 := Qik p (.list e rows) (.list _ _ hpr) e2 rows2 hat
      cases T with
      | none =>
        have : rows = [] := hok
        subst this
        cases p with
        | nil =>
          simp only [At, Option.some.injEq, Prod.mk.injEq] at hat
          obtain ⟨rfl, rfl⟩ := hat
          exact .inl ⟨by simp only [Gh.outO, if_neg hjm, hT], rfl⟩
        | cons x q => obtain ⟨i, k⟩ := x; simp [At] at hat
      | some T =>
        obtain ⟨rows0, hroot, hlen, hrows⟩ := hok
        have hfind := Qqq hn hT
        have hTm : ¬ T < m := Nat.not_lt.2 (hge _ (List.mem_of_getElem? hT) T rfl)
        have hown : ∀ b q, g.own b = some (T, q) → (g.outO m acc).own b = some (j, q) := fun b q hb => by
          simp only [Gh.outO, hb, if_neg hTm, hfind, Option.map_some]
          rw [Nat.add_sub_cancel' (Nat.not_lt.1 hjm)]
        cases p with
        | nil =>
          simp only [At, Option.some.injEq, Prod.mk.injEq] at hat
          obtain ⟨rfl, rfl⟩ := hat
          have hhd : (g.outO m acc).hd j [] = Qib rows.length (g.hd T []) := by simp only [Gh.outO, if_neg hjm, hT, if_true]
          rcases h.node T e rows0 hroot [] e rows0 rfl with ⟨h1, h2⟩ | ⟨b, cap, cur, h1, h2, h3, h4, h5, h6, h7, h8⟩
          · subst h2
            have : rows = [] := by simpa using hrows
            subst this
            exact .inl ⟨by rw [hhd, h1]; rfl, rfl⟩
          · refine .inr ⟨b, cap, cur, by rw [hhd, h1]; rfl, hown b [] h2, h3, h4, by omega, h6, h7, fun i r hr => ?_⟩
            have hcp := hpr r (List.mem_of_getElem? hr)
            rw [hrows, List.getElem?_take] at hr
            split at hr
            · obtain ⟨h9, h10⟩ := h8 i r hr
              refine ⟨h9, fun k c hc => ?_⟩
              obtain ⟨u, h11, h12⟩ := h10 k c hc
              refine ⟨u, h11, ?_⟩
              have hhd2 : (g.outO m acc).hd j ([] ++ [(i, k)]) = g.hd T ([] ++ [(i, k)]) := by simp [Gh.outO, hjm, hT]
              rw [hhd2]
              have := hcp c (List.mem_of_getElem? hc)
              cases this <;> exact h12
            · cases hr
        | cons x q =>
          obtain ⟨i0, j0⟩ := x
          have hat' : At ((i0, j0) :: q) (.list e rows0) = some (e2, rows2) := by
            rw [hrows] at hat
            exact Qt7 hat
          have hhd : ∀ q', (g.outO m acc).hd j ((i0, j0) :: q') = g.hd T ((i0, j0) :: q') := fun q' => by simp [Gh.outO, hjm, hT]
          rcases h.node T e rows0 hroot _ e2 rows2 hat' with ⟨h1, h2⟩ | ⟨b, cap, cur, h1, h2, h3, h4, h5, h6, h7, h8⟩
          · exact .inl ⟨by rw [hhd]; exact h1, h2⟩
          · refine .inr ⟨b, cap, cur, by rw [hhd]; exact h1, hown b _ h2, h3, h4, h5, h6, h7, fun i r hr => ?_⟩
            obtain ⟨h9, h10⟩ := h8 i r hr
            refine ⟨h9, fun k c hc => ?_⟩
            obtain ⟨u, h11, h12⟩ := h10 k c hc
            refine ⟨u, h11, ?_⟩
            rw [List.cons_append, hhd]
            have := hpr2 r (List.mem_of_getElem? hr) c (List.mem_of_getElem? hc)
            cases this <;> exact h12
  · rw [Qlu hl] at hj
    by_cases hjm : j < m
    · rw [if_pos hjm] at hj
      have hget : K2[j]? = some K2[j] := List.getElem?_eq_getElem (by omega)
      rw [hget, Option.getD_some] at hj
      have hk := hK j _ hget
      rw [hj] at hk
      obtain ⟨cs0, hbox, hlen, hc⟩ := hk
      obtain ⟨cur, e, b1, b2, b3⟩ := h.box j cs0 hbox
      refine ⟨cur, e, b1, by simp only [Gh.outO, b2], fun k d hd => ?_⟩
      have hlt : k < cs0.length := by rw [← hlen]; exact (List.getElem?_eq_some_iff.1 hd).1
      obtain ⟨n1, n2, u, n3, n4⟩ := b3 k cs0[k] (List.getElem?_eq_getElem hlt)
      exact ⟨n1, n2, u, n3, hc k _ d u (List.getElem?_eq_getElem hlt) hd n4⟩
    · rw [if_neg hjm] at hj
      cases hx : acc[j - m]? with
      | none => rw [hx] at hj; cases hj
      | some x => rw [hx] at hj; cases hj
  · rw [Qlu hl] at hj
    by_cases hjm : j < m
    · rw [if_pos hjm] at hj
      have hget : K2[j]? = some K2[j] := List.getElem?_eq_getElem (by omega)
      rw [hget, Option.getD_some] at hj
      simp only [Gh.outO, if_pos hjm]
      have hk := hK j _ hget
      refine h.seen j ?_
      cases hx : K2[j] with
      | dead => rw [hx] at hj; cases hj
      | root e rows => rw [hx] at hk; simp [hk.1, Ent.live]
      | box cs => rw [hx] at hk; obtain ⟨_, hb, _⟩ := hk; simp [hb, Ent.live]
    · rw [if_neg hjm] at hj
      cases hx : acc[j - m]? with
      | none => rw [hx] at hj; cases hj
      | some x =>
        have := (List.getElem?_eq_some_iff.1 hx).1
        simp only [Gh.outO, if_neg hjm, decide_eq_true_eq]
        omega
def St.initO (args : List VV) (I : List Ent) (m n : Nat) : St := ⟨fun t => (args[t]?).getD .any, HpE I, m, n, none⟩
def Qbr (P : Program) (ty : Ty) (rs : List ResultVar) (m : Nat) (v : VV) (O : List Ent) : Exit → St → Prop
  | .normal, s => Qc4 P ty rs m v O s
  | .ret, s => Qc4 P ty rs m v O s
  | _, _ => False
theorem Qu0 (hT : Qeo P ty) (h : Rel P E g s a w) {fn : Func} {vs : List VV} (hv : Qcd ty s fn.results.toList = some vs) {H' : Qbi} {v : VV} {acc acc' : List Out} (he : Qtw m H' (wrap vs) acc = some (v, acc')) :
    ∃ val, (results fn a.tmps).run P w = .ok val w ∧ Qds P E s.H g (wrap vs) val := by
  obtain ⟨us, h1, h2, h3⟩ := Qgq hT h _ _ hv
  have hr : (results fn a.tmps).run P w = .ok (if h : us.toArray.size = 1 then us.toArray[0] else .tuple us.toArray) w := by
    rw [Qo5, Array.mapM_eq_mapM_toList]
    simp only [Sem.run_bind, Sem.run_map, h1, Result.andThen_ok, Sem.run_pure]
  refine ⟨_, hr, ?_⟩
  match vs, us, h2, h3, he with
  | [], [], _, _, _ => exact Qlz
  | [x], [u], _, h3, _ => exact h3 0 x u rfl rfl
  | x :: y :: vs, u1 :: u2 :: us, h2, h3, he =>
    have hw : wrap (x :: y :: vs) = .tup (x :: y :: vs) := rfl
    rw [hw] at he ⊢
    have hd : ¬ (u1 :: u2 :: us).toArray.size = 1 := by simp
    rw [dif_neg hd]
    refine ⟨_, rfl, h2, fun j c u hc hu => ?_⟩
    have := h3 j c u hc hu
    simp only [Qtw] at he
    split at he
    · rename_i ys acc1 h1
      have hne := Qwr h1 c (List.mem_of_getElem? hc)
      rwa [Qf4 hne] at this
    · cases he
theorem Qrm (hT : Qeo P ty) {f : FuncId} {fn : Func} {c : Code} {args : List VV} {I : List Ent} {v : VV} {O : List Ent} (hf : P.funcs[f]? = some fn) (hname : (fn.name == "runtime.NumGoroutine") = false)
    (hb : fn.body = some c) {rs : List ResultVar} (hrs : fn.results.toList = rs) {n : Nat} (hn : fn.ntmps = n) (hlen : args.length ≤ n) (hout : Qys v = true) {m : Nat} (hm : I.length = m) (hkept : Qbc I O)
    (hbody : ∀ E, Qrb E m → VWP P E c (Qbr P ty rs m v O) (St.initO args I m n)) : SatO P f args I v O := by
  subst hrs
  subst hn
  subst hm
  obtain ⟨kl, kk, kn⟩ := Qn5 hkept
  refine ⟨⟨fn, hf, hname, by rw [hb]; rfl⟩, hout, kl, kk, kn, fun E g0 w vals hw h hsn hvl hva => ?_⟩
  let E2 : Env := ⟨E.w0, E.own, HLe g0 (HpE I), fun g H g' H' h1 h2 => h2.trans h1⟩
  have hpe : Qrb E2 I.length := fun g H g' H' hw hp => by
    have hp : HLe g0 (HpE I) g H := hp
    have lt : ∀ T, g0.sn T = true → T < I.length := fun T hT => by
      rcases Nat.lt_or_ge T I.length with h | h
      · exact h
      · rw [hsn T h] at hT; cases hT
    have rt : ∀ T, T < I.length → (H' T).isRoot = true → (H T).isRoot = true := fun T hT hr => by
      cases hx : H' T with
      | root e rows' =>
        obtain ⟨rows, h1⟩ := (hw T hT).2.1 e rows' hx
        rw [h1]; rfl
      | _ => rw [hx] at hr; cases hr
    exact ⟨fun T hT => (hw T (lt T hT)).1 (hp.sn T hT), fun T e rows' hT hH => by
      obtain ⟨rows, hr⟩ := (hw T (lt T hT)).2.1 e rows' hH
      exact hp.root T e rows hT hr, fun T hT hl => hp.live T hT ((hw T (lt T hT)).2.2.1 hl), fun T hT hr => by
      rw [(hw T (lt T hT)).2.2.2.1]; exact hp.hd T hT (rt T (lt T hT) hr), fun T hT hl => by
      rw [(hw T (lt T hT)).2.2.2.2]; exact hp.bx T hT ((hw T (lt T hT)).2.2.1 hl)⟩
  have hh : HRel P E2 g0 (HpE I) w := ⟨⟨h.frm.os, h.frm.tape, h.frm.output, h.frm.size, h.frm.cells, h.frm.other⟩, h.node, h.box, h.seen⟩
  have hrel : Rel P E2 g0 (St.initO args I I.length fn.ntmps) { tmps := vals.toArray ++ Array.replicate (fn.ntmps - vals.toArray.size) undef, defers := [] } w := by
    refine ⟨by simp [St.initO]; omega, rfl, hh, fun T hT => hsn T hT.1, fun t => ?_, HLe.refl _ _⟩
    simp only [St.initO]
    cases ht : args[t]? with
    | none => trivial
    | some x =>
      have hlt : t < vals.length := by rw [hvl]; exact (List.getElem?_eq_some_iff.1 ht).1
      have hu : (vals.toArray ++ Array.replicate (fn.ntmps - vals.toArray.size) undef).getD t undef = vals[t] := by
        rw [Array.getD_eq_getD_getElem?, Array.getElem?_append_left (by simpa using hlt)]
        simp [hlt]
      rw [hu]
      exact Qdd (P := P) (E := E2) (hva t x _ ht (List.getElem?_eq_getElem hlt))
  refine calls_of_wp hf hb (Go.wp_mono (hbody E2 hpe _ _ _ hrel) fun e a w' he => ?_)
  have key : ∀ g s, Rel P E2 g s a w' → Qc4 P ty fn.results.toList I.length v O s → a.defers = [] ∧ ∃ val, (results fn a.tmps).run P w' = .ok val w' ∧
      ∃ val' g', Ending.returned val = .returned val' ∧ HRel P E g' (HpE O) w' ∧ (∀ T, O.length ≤ T → g'.sn T = false) ∧ HLe g0 (HpE I) g' (HpE O) ∧ Qds P E (HpE O) g' v val' := by
    intro g s h hr
    obtain ⟨ms, H', Ks, K2, acc1, vs, acc, r0, r1, r2, r3, r4, r5, r6, rfl⟩ := hr
    obtain ⟨val, k1, k2⟩ := Qu0 hT h r4 r5
    obtain ⟨g1, j1, j2⟩ := Qff h r0
    have k2 := Qi5 j2 k2
    obtain ⟨⟨z1, _⟩, p2, p3, p4, p5⟩ := Qp1 (P := P) (g := g1) r3
    obtain ⟨q1, q2, q3, q4⟩ := Xfx (P := P) (g := g1) r5
    have hacc : Qd3 H' acc := q2 (p2 fun j x hj => by simp at hj)
    have hge : Qg5 I.length acc := q3 (p3 fun x hx => by simp at hx)
    have hl : K2.length = I.length := by rw [p4, r1]
    have hkr : ∀ (k : Nat) (y : Ent), K2[k]? = some y → (K2 ++ acc.map Qcz)[k]? = some y := fun k y hk => by
      rw [List.getElem?_append_left (by have := (List.getElem?_eq_some_iff.1 hk).1; exact this)]; exact hk
    have hkeep : Qrw H' K2 := fun T hT => by
      cases hk : K2[T]? with
      | none => rw [hk] at hT; cases hT
      | some y =>
        rw [hk, Option.getD_some] at hT
        obtain ⟨x, hx, hy⟩ := p5 T y hk
        cases y with
        | dead => cases hT
        | box cs => cases hT
        | root e rows =>
          have : x = .root e rows := hy
          subst this
          rw [r2 T _ hx]; rfl
    have hpur : ∀ x ∈ acc, Qbb x.2.2 := fun x hx => by
      obtain ⟨j, hj⟩ := List.getElem?_of_mem hx
      exact kn (I.length + j) (Qcz x) (by omega) (by rw [← hl, List.getElem?_append_right (by omega), Nat.add_sub_cancel_left]; simp [hj])
    have hK : ∀ (k : Nat) (y : Ent), K2[k]? = some y → match y with
      | .dead => True
      | .root e rows => H' k = .root e rows ∧ Qbb rows
      | .box ys => ∃ cs, H' k = .box cs ∧ ys.length = cs.length ∧ ∀ (j : Nat) (c d : VV) (u : Value), cs[j]? = some c → ys[j]? = some d → Qea P E2 H' g1 c u → Qea P E2 (HpE (K2 ++ acc.map Qcz)) (g1.outO I.length acc) d u := by
      intro k y hk
      obtain ⟨x, hx, hy⟩ := p5 k y hk
      cases y with
      | dead => trivial
      | root e rows =>
        have : x = .root e rows := hy
        subst this
        refine ⟨r2 k _ hx, ?_⟩
        have hlt : k < I.length := by rw [← hl]; exact (List.getElem?_eq_some_iff.1 hk).1
        have := kk k I[k] _ (List.getElem?_eq_getElem hlt) (hkr k _ hk)
        cases hi : I[k] with
        | root e' rows' => rw [hi] at this; exact this.2
        | box cs => rw [hi] at this; exact this.elim
        | dead => rw [hi] at this; exact this.elim
      | box ys =>
        obtain ⟨cs, rfl, h2, h3⟩ := hy
        exact ⟨cs, r2 k _ hx, h2, fun j c d u hc hd hu => h3 E2 acc K2 q1 hl hkeep j c d u hc hd hu⟩
    have hfin := Xb7 (m := I.length) j1.heap hacc r6 hge hpur hl hK
    have hpin : HLe g0 (HpE I) g1 H' := j1.pin
    have hv := q4 E2 K2 hl hkeep val k2
    have hsm : ∀ T, g0.sn T = true → T < I.length := fun T hT => by
      rcases Nat.lt_or_ge T I.length with c | c
      · exact c
      · rw [hsn T c] at hT; cases hT
    have hat : ∀ T, T < I.length → ∃ y, K2[T]? = some y ∧ HpE (K2 ++ acc.map Qcz) T = y ∧ ∃ x, Ks[T]? = some x := fun T hT => by
      have hg : K2[T]? = some K2[T] := List.getElem?_eq_getElem (by omega)
      obtain ⟨x, hx, _⟩ := p5 T _ hg
      exact ⟨K2[T], hg, by rw [Qlu hl, if_pos hT, hg]; rfl, x, hx⟩
    have hle : HLe g0 (HpE I) (g1.outO I.length acc) (HpE (K2 ++ acc.map Qcz)) := by
      refine ⟨fun T hT => ?_, fun T e rows hT hr => ?_, fun T hT hr => ?_, fun T hT hr => ?_, fun T hT hr => ?_⟩
      · simp only [Gh.outO, if_pos (hsm T hT)]; exact hpin.sn T hT
      · obtain ⟨y, y1, y2, _⟩ := hat T (hsm T hT)
        rw [y2] at hr
        subst hr
        exact hpin.root T e rows hT (hK T _ y1).1
      · obtain ⟨y, y1, y2, _⟩ := hat T (hsm T hT)
        rw [y2] at hr
        refine hpin.live T hT ?_
        have := hK T y y1
        cases y with
        | dead => cases hr
        | root e rows => simp [this.1, Ent.live]
        | box ys => obtain ⟨cs, hb, _⟩ := this; simp [hb, Ent.live]
      · obtain ⟨y, y1, y2, _⟩ := hat T (hsm T hT)
        rw [y2] at hr
        simp only [Gh.outO, if_pos (hsm T hT)]
        refine hpin.hd T hT ?_
        have := hK T y y1
        cases y with
        | dead => cases hr
        | root e rows => simp [this.1, Ent.isRoot]
        | box ys => cases hr
      · obtain ⟨y, y1, y2, _⟩ := hat T (hsm T hT)
        rw [y2] at hr
        refine hpin.bx T hT ?_
        have := hK T y y1
        cases y with
        | dead => cases hr
        | root e rows => simp [this.1, Ent.live]
        | box ys => obtain ⟨cs, hb, _⟩ := this; simp [hb, Ent.live]
    refine ⟨h.defers, val, k1, val, g1.outO I.length acc, rfl, ⟨⟨hfin.frm.os, hfin.frm.tape, hfin.frm.output, hfin.frm.size, hfin.frm.cells, hfin.frm.other⟩, hfin.node, hfin.box, hfin.seen⟩, fun T hT => ?_, hle, hv⟩
    have : ¬ T < I.length + acc.length := by simp only [List.length_append, List.length_map, hl] at hT; omega
    have h2 : ¬ T < I.length := by omega
    simp only [Gh.outO, if_neg h2, this, decide_false]
  cases e with
  | normal => obtain ⟨g, s, h1, h2⟩ := he; exact key g s h1 h2
  | ret => obtain ⟨g, s, h1, h2⟩ := he; exact key g s h1 h2
  | exit i => obtain ⟨g, s, h1, h2⟩ := he; exact h2
  | _ => exact he.elim
end
def Qdz (P : Program) (ty : Ty) (ops : Array Oper) (o : Oper) (s s' : St) : Prop := vop P ty ops o s (· = s')
def St.win (s : St) (lo hi : Nat) : St := { s with nx := lo, lim := some hi }
def St.nm (s : St) (n : Nat) : St := { s with nx := n, lim := none }
def tokP : VV → List Nat
  | .bp T _ => [T]
  | _ => []
def Quw : VV → List Nat
  | .clo _ caps => caps.flatMap tokP
  | .rf T _ => [T]
  | .bp T _ => [T]
  | .np T _ _ => [T]
  | .bs T _ _ _ => [T]
  | _ => []
def Qzw : VV → List Nat
  | .agg vs => vs.flatMap Quw
  | x => Quw x
def Qjt : VV → List Nat
  | .tup vs => vs.flatMap Qzw
  | x => Qzw x
def Qkt : VV → List Nat
  | .rf T _ => [T]
  | _ => []
def Qgr (H : Qbi) (x : VV) : List Nat :=
  match x with
  | .bp T j => match H T with
    | .box cs => (cs.drop j).flatMap Qkt
    | _ => []
  | .clo _ caps => caps.flatMap fun c => match c with
    | .bp T j => (match H T with | .box cs => (cs.drop j).flatMap Qkt | _ => [])
    | _ => []
  | _ => []
def Qe9 (H : Qbi) : VV → List Nat
  | .agg vs => vs.flatMap (Qgr H)
  | x => Qgr H x
def Qg9 (d : Option Nat) (v : VV) (f : Nat → VV) : Nat → VV :=
  match d with
  | some d => Qbo d v f
  | none => f
def ov (n m : Nat) (δ H : Qbi) : Qbi := fun T => if n ≤ T ∧ T < m then δ T else H T
def eff (d : Option Nat) (v : VV) (δ : Qbi) (n' : Nat) (s : St) : St :=
  { s with tm := Qg9 d v s.tm, H := ov s.nx n' δ s.H, nx := n' }
def Qiq (o : Oper) : Bool :=
  match o.op with
  | .move _ | .assign _ | .pick .. | .binOp .. | .unOp .. | .convert .. | .field .. | .index .. | .extract .. | .makeFunc .. | .build .. => true
  | _ => false
def Qeu (o : Oper) : Bool :=
  match o.op with
  | .store .. => false
  | .call c => match c.callee with
    | .builtin .append => false
    | _ => true
  | _ => true
structure Agree (ops : Array Oper) (o : Oper) (s s2 : St) : Prop where
  nx : s2.nx = s.nx
  lim : s2.lim = s.lim
  N : s2.N = s.N
  tm : ∀ t ∈ o.looksAt ops, s2.tm t = s.tm t
  H : ∀ t ∈ o.looksAt ops, ∀ T ∈ Qjt (s.tm t), s2.H T = s.H T
  D : ∀ t ∈ o.looksAt ops, ∀ T ∈ Qe9 s.H (s.tm t), s2.H T = s.H T
section
variable {P : Program} {E : Env} {g g' : Gh} {s s2 s' : St} {a : Act} {w w' : World} {ty : Ty} {ops : Array Oper} {o : Oper}
theorem Xa8 {K : St → Prop} : vop P ty ops o s K ↔ ∃ s', Qdz P ty ops o s s' ∧ K s' := by
  unfold Qdz vop
  constructor
  · intro h
    split at h
    · split at h
      · rcases h with ⟨h1, v, l, h2, h3, s', h4, h5⟩ | ⟨h1, σ, v, O, h2, h3, h4, h5, h6, s', h7, h8⟩
        · exact ⟨s', .inl ⟨h1, v, l, h2, h3, s', h4, rfl⟩, h5⟩
        · exact ⟨s', .inr ⟨h1, σ, v, O, h2, h3, h4, h5, h6, s', h7, rfl⟩, h8⟩
      · obtain ⟨s', h4, h5⟩ := h
        exact ⟨s', ⟨s', h4, rfl⟩, h5⟩
    · obtain ⟨s', h4, h5⟩ := h
      exact ⟨s', ⟨s', h4, rfl⟩, h5⟩
    · exact h.elim
  · rintro ⟨s', h, hk⟩
    split at h
    · split at h
      · rcases h with ⟨h1, v, l, h2, h3, s2, h4, rfl⟩ | ⟨h1, σ, v, O, h2, h3, h4, h5, h6, s2, h7, rfl⟩
        · exact .inl ⟨h1, v, l, h2, h3, s2, h4, hk⟩
        · exact .inr ⟨h1, σ, v, O, h2, h3, h4, h5, h6, s2, h7, hk⟩
      · obtain ⟨s2, h4, rfl⟩ := h
        exact ⟨s2, h4, hk⟩
    · obtain ⟨s2, h4, rfl⟩ := h
      exact ⟨s2, h4, hk⟩
    · exact h.elim
theorem Qdq {d : Option Nat} {x : VV} (h : s.putd d x = some s') : s' = { s with tm := Qg9 d x s.tm } ∧ ∀ s2 : St, s2.N = s.N → s2.putd d x = some { s2 with tm := Qg9 d x s2.tm } := by
  cases d with
  | none => simp only [St.putd, Option.some.injEq] at h; subst h; exact ⟨rfl, fun s2 _ => rfl⟩
  | some d =>
    simp only [St.putd] at h
    split at h
    · rename_i hd
      simp only [Option.some.injEq] at h; subst h
      refine ⟨rfl, fun s2 hN => ?_⟩
      simp only [St.putd]
      rw [if_pos (by rw [hN]; exact hd)]
      rfl
    · cases h
theorem Qet (ht : ∀ t ∈ o.looksAt ops, s2.tm t = s.tm t) : Qi8 ops s2 o = Qi8 ops s o := by
  unfold Qi8
  split
  · rfl
  · rename_i j want hg
    cases hd : (ops[j]?).bind (·.dst) with
    | none => rfl
    | some t =>
      simp only
      rw [ht t (by
        unfold Oper.looksAt
        refine List.mem_append_right _ ?_
        rw [hg]
        simp [hd])]
theorem Qha {t : Nat} (h : Operand.tmp t ∈ o.op.operands.toList) : t ∈ o.looksAt ops :=
  List.mem_append_left _ (List.mem_filterMap.2 ⟨.tmp t, h, rfl⟩)
theorem Qd8 (ht : ∀ t ∈ o.looksAt ops, s2.tm t = s.tm t) {x : Operand} (hx : x ∈ o.op.operands.toList) : ev s2 x = ev s x := by
  cases x with
  | tmp t => exact ht t (Qha hx)
  | _ => rfl
theorem Quf (ht : ∀ t ∈ o.looksAt ops, ∀ T ∈ Qjt (s.tm t), s2.H T = s.H T) {x : Operand} (hx : x ∈ o.op.operands.toList) : ∀ T ∈ Qjt (ev s x), s2.H T = s.H T := by
  cases x with
  | tmp t => exact ht t (Qha hx)
  | const v =>
    intro T hT
    simp only [ev, Qip] at hT
    split at hT <;> simp [Qjt, Qzw, Quw] at hT
  | global n => intro T hT; simp [ev, Qjt, Qzw, Quw] at hT
  | func n => intro T hT; simp [ev, Qjt, Qzw, Quw] at hT
theorem Qvk {x : VV} {t : TypeId} (h : ∀ T ∈ Qjt x, s2.H T = s.H T) : Qnx ty s2 t x = Qnx ty s t x := by
  cases x <;> first | rfl | (have := h _ (List.mem_singleton.2 rfl); simp only [Qnx, this])
theorem Qk1 {x : VV} {t : TypeId} {f : Nat} (h : ∀ T ∈ Qjt x, s2.H T = s.H T) : Qeh ty s2 t x f = Qeh ty s t x f := by
  cases x <;> first | rfl | (have := h _ (List.mem_singleton.2 rfl); simp only [Qeh, this])
theorem Qkz {x i : VV} {t : TypeId} (h : ∀ T ∈ Qjt x, s2.H T = s.H T) : Qel ty s2 t x i = Qel ty s t x i := by
  cases x <;> first | rfl | (have := h _ (List.mem_singleton.2 rfl); simp only [Qel, this])
theorem Qr0 {x : VV} {t : TypeId} {lo hi : Option VV} (h : ∀ T ∈ Qjt x, s2.H T = s.H T) : Qkr ty s2 t x lo hi = Qkr ty s t x lo hi := by
  cases x <;> first | rfl | (have := h _ (List.mem_singleton.2 rfl); simp only [Qkr, this])
theorem Qy9 {x : VV} {t : TypeId} (h : ∀ T ∈ Qjt x, s2.H T = s.H T) : Xfo ty s2 t x = Xfo ty s t x := by
  cases x <;> first | rfl | (have := h _ (List.mem_singleton.2 rfl); simp only [Xfo, this])
theorem Xdl {H H2 : Qbi} {x : VV} (h : ∀ T ∈ Qkt x, H2 T = H T) : x.pt H2 = x.pt H ∧ (Qwq H2 x ↔ Qwq H x) := by
  cases x with
  | rf T n => have := h T (List.mem_singleton.2 rfl); simp only [VV.pt, Qwq, this, true_and]
  | _ => exact ⟨rfl, Iff.rfl⟩
theorem Qr6 {H H2 : Qbi} {T j : Nat} (h : H2 T = H T) (h2 : ∀ cs, H T = .box cs → ∀ X ∈ (cs.drop j).flatMap Qkt, H2 X = H X) :
    Qgd H2 T j = Qgd H T j ∧ ((match H2 T with | .box cs => ∀ x ∈ cs.drop j, Qwq H2 x | _ => False) ↔ (match H T with | .box cs => ∀ x ∈ cs.drop j, Qwq H x | _ => False)) := by
  simp only [Qgd, h]
  cases hT : H T with
  | box cs =>
    have h3 : ∀ x ∈ cs.drop j, x.pt H2 = x.pt H ∧ (Qwq H2 x ↔ Qwq H x) := fun x hx => Xdl fun X hX => h2 cs hT X (List.mem_flatMap.2 ⟨x, hx, hX⟩)
    constructor
    · simp only [VV.fp.injEq]
      exact List.map_congr_left fun x hx => (h3 x hx).1
    · exact forall_congr' fun x => forall_congr' fun hx => (h3 x hx).2
  | _ => exact ⟨rfl, Iff.rfl⟩
theorem Qfg {H H2 : Qbi} {x : VV} (h : ∀ T ∈ Quw x, H2 T = H T) (hd : ∀ T ∈ Qgr H x, H2 T = H T) : Qlk H2 x = Qlk H x ∧ (Qdm H2 x ↔ Qdm H x) := by
  cases x with
  | rf T n => have := h T (List.mem_singleton.2 rfl); simp only [Qlk, Qdm, this, true_and]
  | bp T j =>
    have := Qr6 (j := j) (h T (List.mem_singleton.2 rfl)) (fun cs hT X hX => hd X (by simp only [Qgr, hT]; exact hX))
    exact ⟨this.1, this.2⟩
  | bs T j n e =>
    have h1 : H2 T = H T := h T (List.mem_singleton.2 rfl)
    simp only [Qlk, Xap, Qdm, h1, true_and]
  | clo f caps =>
    have h3 : ∀ c ∈ caps, Qwg H2 c = Qwg H c ∧ (Qjo H2 c ↔ Qjo H c) := by
      intro c hc
      cases c with
      | bp T j =>
        have h4 : H2 T = H T := h T (by simp only [Quw, List.mem_flatMap]; exact ⟨_, hc, List.mem_singleton.2 rfl⟩)
        have := Qr6 (j := j) h4 (fun cs hT X hX => hd X (by
          simp only [Qgr, List.mem_flatMap]
          exact ⟨_, hc, by simp only [hT]; exact hX⟩))
        exact ⟨this.1, this.2⟩
      | _ => exact ⟨rfl, Iff.rfl⟩
    constructor
    · simp only [Qlk, VV.clo.injEq, true_and]
      exact List.map_congr_left fun c hc => (h3 c hc).1
    · simp only [Qdm]
      exact forall_congr' fun c => forall_congr' fun hc => (h3 c hc).2
  | _ => exact ⟨rfl, Iff.rfl⟩
theorem Qon {H H2 : Qbi} {x : VV} (h : ∀ T ∈ Qjt x, H2 T = H T) (hd : ∀ T ∈ Qe9 H x, H2 T = H T) : Qnd H2 x = Qnd H x ∧ (Qgm H2 x ↔ Qgm H x) := by
  cases x with
  | agg vs =>
    have h' : ∀ y ∈ vs, ∀ T ∈ Quw y, H2 T = H T := fun y hy T hT => h T (by simp only [Qjt, Qzw, List.mem_flatMap]; exact ⟨y, hy, hT⟩)
    have hd' : ∀ y ∈ vs, ∀ T ∈ Qgr H y, H2 T = H T := fun y hy T hT => hd T (by simp only [Qe9, List.mem_flatMap]; exact ⟨y, hy, hT⟩)
    constructor
    · simp only [Qnd, VV.agg.injEq]
      exact List.map_congr_left fun y hy => (Qfg (h' y hy) (hd' y hy)).1
    · simp only [Qgm]
      exact forall_congr' fun y => forall_congr' fun hy => (Qfg (h' y hy) (hd' y hy)).2
  | tup vs => exact ⟨rfl, Iff.rfl⟩
  | rf T n => exact Qfg (x := .rf T n) h hd
  | bp T n => exact Qfg (x := .bp T n) h hd
  | bs T j n e => exact Qfg (x := .bs T j n e) h hd
  | clo f c => exact Qfg (x := .clo f c) h hd
  | _ => exact ⟨rfl, Iff.rfl⟩
theorem Qu4 {t : TypeId} {x : VV} : Qjt (Qdv ty t x) = Qjt x := by
  unfold Qdv
  split
  · split <;> rfl
  · rfl
theorem Qhi {α β : Type} {f g : α → List β} : ∀ {l : List α}, (∀ x ∈ l, f x = g x) → l.flatMap f = l.flatMap g
  | [], _ => rfl
  | x :: l, h => by rw [List.flatMap_cons, List.flatMap_cons, h x (List.mem_cons_self ..), Qhi fun y hy => h y (List.mem_cons_of_mem _ hy)]
theorem Quk {H H2 : Qbi} {x : VV} (h : ∀ T ∈ Qjt x, H2 T = H T) : Qe9 H2 x = Qe9 H x := by
  have key : ∀ x : VV, (∀ T ∈ Quw x, H2 T = H T) → Qgr H2 x = Qgr H x := by
    intro x hx
    cases x with
    | bp T j => have := hx T (List.mem_singleton.2 rfl); simp only [Qgr, this]
    | clo f caps =>
      simp only [Qgr]
      have : ∀ c ∈ caps, (match c with | .bp T j => (match H2 T with | .box cs => (cs.drop j).flatMap Qkt | _ => []) | _ => ([] : List Nat)) = (match c with | .bp T j => (match H T with | .box cs => (cs.drop j).flatMap Qkt | _ => []) | _ => []) := by
        intro c hc
        cases c with
        | bp T j =>
          have := hx T (by simp only [Quw, List.mem_flatMap]; exact ⟨_, hc, List.mem_singleton.2 rfl⟩)
          simp only [this]
        | _ => rfl
      exact Qhi this
    | _ => rfl
  cases x with
  | agg vs =>
    simp only [Qe9]
    exact Qhi fun y hy => key y fun T hT => h T (by simp only [Qjt, Qzw, List.mem_flatMap]; exact ⟨y, hy, hT⟩)
  | tup vs => rfl
  | rf T n => exact key (.rf T n) h
  | bp T n => exact key (.bp T n) h
  | np T i j => exact key (.np T i j) h
  | clo f c => exact key (.clo f c) h
  | _ => rfl
theorem Qmx (htm : ∀ t ∈ o.looksAt ops, s2.tm t = s.tm t) : Qgt s2 o = Qgt s o := by
  unfold Qgt
  cases ho : o.op with
  | call c =>
    simp only
    cases hc : c.callee with
    | value f =>
      cases f with
      | tmp t =>
        have : s2.tm t = s.tm t := htm t (Qha (by simp [ho, Op.operands, Call.operands, hc]))
        simp only [this]
      | _ => rfl
    | _ => rfl
  | _ => rfl
theorem Qz2 (hD : ∀ t ∈ o.looksAt ops, ∀ T ∈ Qe9 s.H (s.tm t), s2.H T = s.H T) {x : Operand} (hx : x ∈ o.op.operands.toList) : ∀ T ∈ Qe9 s.H (ev s x), s2.H T = s.H T := by
  cases x with
  | tmp t => exact hD t (Qha hx)
  | const v =>
    intro T hT
    simp only [ev, Qip] at hT
    split at hT <;> simp [Qe9, Qgr] at hT
  | global n => intro T hT; simp [ev, Qe9, Qgr] at hT
  | func n => intro T hT; simp [ev, Qe9, Qgr] at hT
theorem Qui {t : TypeId} {x : VV} {H : Qbi} : Qe9 H (Qdv ty t x) = Qe9 H x := by
  unfold Qdv
  split
  · split <;> rfl
  · rfl
theorem Qfz (htm : ∀ t ∈ o.looksAt ops, s2.tm t = s.tm t) (hH : ∀ t ∈ o.looksAt ops, ∀ T ∈ Qjt (s.tm t), s2.H T = s.H T) (hD : ∀ t ∈ o.looksAt ops, ∀ T ∈ Qe9 s.H (s.tm t), s2.H T = s.H T) : ∀ (xs : List Operand) (ts : List TypeId), (∀ x ∈ xs, x ∈ o.op.operands.toList) →
    Qcx ty s2 xs ts = Qcx ty s xs ts ∧ ∀ y ∈ Qcx ty s xs ts, (∀ T ∈ Qjt y, s2.H T = s.H T) ∧ ∀ T ∈ Qe9 s.H y, s2.H T = s.H T
  | [], ts, _ => by cases ts <;> exact ⟨rfl, fun y hy => by simp [Qcx] at hy⟩
  | x :: xs, [], hx => by
    obtain ⟨h1, h2⟩ := Qfz htm hH hD xs [] fun y hy => hx y (List.mem_cons_of_mem _ hy)
    have h0 := hx x (List.mem_cons_self ..)
    refine ⟨by simp only [Qcx, h1, Qd8 htm h0], fun y hy => ?_⟩
    rcases List.mem_cons.1 hy with rfl | hy
    · exact ⟨Quf hH h0, Qz2 hD h0⟩
    · exact h2 y hy
  | x :: xs, t :: ts, hx => by
    obtain ⟨h1, h2⟩ := Qfz htm hH hD xs ts fun y hy => hx y (List.mem_cons_of_mem _ hy)
    have h0 := hx x (List.mem_cons_self ..)
    refine ⟨by simp only [Qcx, h1, Qd8 htm h0], fun y hy => ?_⟩
    rcases List.mem_cons.1 hy with rfl | hy
    · rw [Qu4, Qui]; exact ⟨Quf hH h0, Qz2 hD h0⟩
    · exact h2 y hy
theorem Qgu (htm : ∀ t ∈ o.looksAt ops, s2.tm t = s.tm t) {t : TypeId} {parts : Array (Nat × Operand)} (hx : ∀ p ∈ parts.toList, p.2 ∈ o.op.operands.toList) : Qcn ty s2 t parts = Qcn ty s t parts := by
  unfold Qcn
  refine List.map_congr_left fun p hp => ?_
  rw [Qd8 htm (hx p hp)]
theorem Qy7 (htm : ∀ t ∈ o.looksAt ops, s2.tm t = s.tm t) (hH : ∀ t ∈ o.looksAt ops, ∀ T ∈ Qjt (s.tm t), s2.H T = s.H T) : Qiv ty s2 o = Qiv ty s o := by
  have he : ∀ {x : Operand}, x ∈ o.op.operands.toList → ev s2 x = ev s x := fun hx => Qd8 htm hx
  have hh : ∀ {x : Operand}, x ∈ o.op.operands.toList → ∀ T ∈ Qjt (ev s x), s2.H T = s.H T := fun hx => Quf hH hx
  unfold Qiv
  cases ho : o.op with
  | move x => simp only [he (x := x) (by simp [ho, Op.operands])]
  | assign x => simp only [he (x := x) (by simp [ho, Op.operands])]
  | pick c x y => simp only [he (x := x) (by simp [ho, Op.operands]), he (x := y) (by simp [ho, Op.operands]), he (x := c) (by simp [ho, Op.operands])]
  | binOp op t x y t' => simp only [he (x := x) (by simp [ho, Op.operands]), he (x := y) (by simp [ho, Op.operands])]
  | unOp op t x => simp only [he (x := x) (by simp [ho, Op.operands])]
  | convert t t' x => simp only [he (x := x) (by simp [ho, Op.operands])]
  | load t x => simp only [he (x := x) (by simp [ho, Op.operands]), Qvk (hh (x := x) (by simp [ho, Op.operands]))]
  | fieldAddr t x f => simp only [he (x := x) (by simp [ho, Op.operands]), Qk1 (hh (x := x) (by simp [ho, Op.operands]))]
  | field t x f => simp only [he (x := x) (by simp [ho, Op.operands])]
  | indexAddr t x i => simp only [he (x := x) (by simp [ho, Op.operands]), he (x := i) (by simp [ho, Op.operands]), Qkz (hh (x := x) (by simp [ho, Op.operands]))]
  | index t x i => simp only [he (x := x) (by simp [ho, Op.operands]), he (x := i) (by simp [ho, Op.operands])]
  | extract x i => simp only [he (x := x) (by simp [ho, Op.operands])]
  | slice t x lo hi mx =>
    cases mx with
    | some m => rfl
    | none =>
      have h1 : lo.map (ev s2) = lo.map (ev s) := by
        cases lo with
        | none => rfl
        | some l => simp only [Option.map_some, he (x := l) (by simp [ho, Op.operands])]
      have h2 : hi.map (ev s2) = hi.map (ev s) := by
        cases hi with
        | none => rfl
        | some l => simp only [Option.map_some, he (x := l) (by simp [ho, Op.operands])]
      simp only [he (x := x) (by simp [ho, Op.operands]), h1, h2, Qr0 (hh (x := x) (by simp [ho, Op.operands]))]
  | nilCheck x =>
    have h1 := hh (x := x) (by simp [ho, Op.operands])
    simp only [he (x := x) (by simp [ho, Op.operands])]
    generalize ev s x = v at h1
    cases v <;> first | rfl | (have := h1 _ (List.mem_singleton.2 rfl); simp only [this])
  | makeFunc fn fi ca =>
    have h1 : ca.toList.map (ev s2) = ca.toList.map (ev s) := List.map_congr_left fun x hx => he (by
      simp only [ho, Op.operands, Array.toList_append]
      exact List.mem_append_right _ hx)
    cases fn <;> first | rfl | simp only [h1]
  | call c =>
    simp only
    cases hc : c.callee with
    | builtin b =>
      simp only
      have h0 : ∀ x ∈ c.args.toList, x ∈ o.op.operands.toList := fun x hx => by
        simp only [ho, Op.operands, Call.operands, Array.toList_append]
        exact List.mem_append_right _ hx
      have h1 : c.args.toList.map (ev s2) = c.args.toList.map (ev s) := List.map_congr_left fun x hx => he (h0 x hx)
      rw [h1]
      cases b <;> try rfl
      simp only [Qjd]
      split
      · rename_i x t hx ht
        obtain ⟨y, hy, rfl⟩ := Xcl hx
        exact Qy9 (hh (h0 y (by rw [hy]; exact List.mem_singleton.2 rfl)))
      · rfl
    | _ => rfl
  | _ => rfl
theorem Qpc (n : Nat) (δ H : Qbi) : ov n n δ H = H := by
  funext T
  have : ¬ (n ≤ T ∧ T < n) := by omega
  simp only [ov, if_neg this]
theorem Qlq (n : Nat) (e : Ent) (H : Qbi) : Qbd n e H = ov n (n + 1) (fun _ => e) H := by
  funext T
  by_cases h : T = n
  · subst h
    have : T ≤ T ∧ T < T + 1 := by omega
    simp only [Qa7, ov, if_pos this]
  · have : ¬ (n ≤ T ∧ T < n + 1) := by omega
    simp only [Qa9 _ _ h, ov, if_neg this]
theorem Xgi {n m k : Nat} (h1 : n ≤ m) (h2 : m ≤ k) (δ ε H : Qbi) : ov m k ε (ov n m δ H) = ov n k (fun T => if T < m then δ T else ε T) H := by
  funext T
  simp only [ov]
  by_cases c1 : m ≤ T ∧ T < k
  · rw [if_pos c1, if_pos (by omega), if_neg (by omega)]
  · rw [if_neg c1]
    by_cases c2 : n ≤ T ∧ T < m
    · rw [if_pos c2, if_pos (by omega), if_pos c2.2]
    · rw [if_neg c2, if_neg (by omega)]
theorem Qim : ∀ {vs : List VV} {n : Nat} {H : Qbi} {ps : List PT} {m : Nat} {H' : Qbi}, Qcm vs n H = some (ps, m, H') → n ≤ m ∧ ∃ δ, ∀ H2, Qcm vs n H2 = some (ps, m, ov n m δ H2)
  | [], n, H, ps, m, H', h => by
    simp only [Qcm, Option.some.injEq, Prod.mk.injEq] at h
    obtain ⟨rfl, rfl, rfl⟩ := h
    exact ⟨Nat.le_refl _, fun _ => .dead, fun H2 => by simp only [Qcm, Qpc]⟩
  | v :: vs, n, H, ps, m, H', h => by
    by_cases hv : ∃ e, v = .nl e
    · obtain ⟨e, rfl⟩ := hv
      simp only [Qcm] at h ⊢
      cases hr : Qcm vs (n + 1) (Qbd n (.root e []) H) with
      | none => rw [hr] at h; cases h
      | some z =>
        obtain ⟨ps', m', H1⟩ := z
        rw [hr] at h
        simp only [Option.some.injEq, Prod.mk.injEq] at h
        obtain ⟨rfl, rfl, rfl⟩ := h
        obtain ⟨h1, δ, h2⟩ := Qim hr
        refine ⟨by omega, fun T => if T < n + 1 then .root e [] else δ T, fun H2 => ?_⟩
        rw [h2, Qlq, Xgi (by omega) h1]
    · have ht : ∀ H, Qcm (v :: vs) n H = (match v.cell, Qcm vs n H with | some c, some (ps, m, H') => some (c :: ps, m, H') | _, _ => none) := fun H => by
        cases v <;> first | rfl | exact absurd ⟨_, rfl⟩ hv
      rw [ht] at h
      cases hcv : v.cell with
      | none => rw [hcv] at h; cases h
      | some c0 =>
        cases hr : Qcm vs n H with
        | none => rw [hcv, hr] at h; cases h
        | some z =>
          obtain ⟨ps', m', H1⟩ := z
          rw [hcv, hr] at h
          simp only [Option.some.injEq, Prod.mk.injEq] at h
          obtain ⟨rfl, rfl, rfl⟩ := h
          obtain ⟨h1, δ, h2⟩ := Qim hr
          exact ⟨h1, δ, fun H2 => by rw [ht, hcv, h2]⟩
theorem Qlh {d : Option Nat} {x : VV} {δ : Qbi} {n' : Nat} (h : ({ s with H := ov s.nx n' δ s.H, nx := n' } : St).putd d x = some s') :
    s' = eff d x δ n' s ∧ ∀ s2 : St, s2.N = s.N → ({ s2 with H := ov s2.nx n' δ s2.H, nx := n' } : St).putd d x = some (eff d x δ n' s2) := by
  obtain ⟨h1, h2⟩ := Qdq h
  exact ⟨h1, fun s2 hN => h2 { s2 with H := ov s2.nx n' δ s2.H, nx := n' } hN⟩
theorem Qis {k : Nat} (h : s.room k = true) : ∀ m, s.lim = some m → s.nx + k ≤ m := by
  intro m hm
  simpa [St.room, hm] using h
theorem Xco (hq : Qeu o = true) (h : Qhu ty s o = some s') : ∃ v δ n', s.nx ≤ n' ∧ (∀ m, s.lim = some m → s.nx ≤ m → n' ≤ m) ∧ s' = eff o.dst v δ n' s ∧ ∀ s2, Agree ops o s s2 → Qhu ty s2 o = some (eff o.dst v δ n' s2) := by
  have hroom : ∀ s2 k, Agree ops o s s2 → s2.room k = s.room k := fun s2 k ha => by simp only [St.room, ha.lim, ha.nx]
  have hbox : ∀ vs, Qzt s vs o.dst = some s' → ∃ v δ n', s.nx ≤ n' ∧ (∀ m, s.lim = some m → s.nx ≤ m → n' ≤ m) ∧ s' = eff o.dst v δ n' s ∧ ∀ s2, Agree ops o s s2 → Qzt s2 vs o.dst = some (eff o.dst v δ n' s2) := by
    intro vs hx
    unfold Qzt at hx
    split at hx
    · cases hx
    · rename_i hc
      rw [Qlq] at hx
      obtain ⟨h1, h2⟩ := Qlh hx
      have hr : s.room 1 = true := by
        cases hq : s.room 1 with
        | true => rfl
        | false => exact absurd (.inr hq) hc
      refine ⟨_, _, _, Nat.le_succ _, fun m hm _ => Qis hr m hm, h1, fun s2 ha => ?_⟩
      unfold Qzt
      rw [if_neg (by rw [hroom s2 1 ha]; exact hc), Qlq]
      have := h2 s2 ha.N
      rw [ha.nx] at this ⊢
      exact this
  have hval : (Qiv ty s o).bind (s.putd o.dst) = some s' → ∃ v δ n', s.nx ≤ n' ∧ (∀ m, s.lim = some m → s.nx ≤ m → n' ≤ m) ∧ s' = eff o.dst v δ n' s ∧ ∀ s2, Agree ops o s s2 → (Qiv ty s2 o).bind (s2.putd o.dst) = some (eff o.dst v δ n' s2) := by
    intro hx
    cases hv : Qiv ty s o with
    | none => rw [hv] at hx; cases hx
    | some x =>
      rw [hv] at hx
      have hx : s.putd o.dst x = some s' := hx
      obtain ⟨h1, h2⟩ := Qdq hx
      refine ⟨x, fun _ => .dead, s.nx, Nat.le_refl _, fun m _ hm => hm, ?_, fun s2 ha => ?_⟩
      · rw [h1]
        simp only [eff, Qpc]
      · rw [Qy7 ha.tm ha.H, hv]
        show s2.putd o.dst x = _
        rw [h2 s2 ha.N]
        simp only [eff, ← ha.nx, Qpc]
  unfold Qhu at h ⊢
  cases ho : o.op with
  | alloc t =>
    simp only [ho] at h ⊢
    split at h
    · rename_i d hd; exact hbox _ h
    · cases h
  | box t x =>
    simp only [ho] at h ⊢
    split at h
    · rename_i vs hvs
      obtain ⟨v, δ, n', h1, h2, h3, h4⟩ := hbox _ h
      refine ⟨v, δ, n', h1, h2, h3, fun s2 ha => ?_⟩
      rw [Qd8 ha.tm (x := x) (by simp [ho, Op.operands]), hvs]
      exact h4 s2 ha
    · cases h
  | store t x y => simp [Qeu, ho] at hq
  | build t parts =>
    simp only [ho] at h ⊢
    have hev : ∀ s2, Agree ops o s s2 → Qcn ty s2 t parts = Qcn ty s t parts := fun s2 ha => Qgu ha.tm (by
      intro p hp
      simp only [ho, Op.operands, List.mem_map]
      exact ⟨p, hp, rfl⟩)
    cases hv : Qif ty t (Qcn ty s t parts) with
    | none => rw [hv] at h; cases h
    | some x =>
      rw [hv] at h
      have hx : s.putd o.dst x = some s' := h
      obtain ⟨h1, h2⟩ := Qdq hx
      refine ⟨x, fun _ => .dead, s.nx, Nat.le_refl _, fun m _ hm => hm, ?_, fun s2 ha => ?_⟩
      · rw [h1]
        simp only [eff, Qpc]
      · rw [hev s2 ha, hv]
        show s2.putd o.dst x = _
        rw [h2 s2 ha.N]
        simp only [eff, ← ha.nx, Qpc]
  | buildSlice t len parts =>
    simp only [ho] at h ⊢
    have hev : ∀ s2, Agree ops o s s2 → Qcn ty s2 t parts = Qcn ty s t parts := fun s2 ha => Qgu ha.tm (by
      intro p hp
      simp only [ho, Op.operands, List.mem_map]
      exact ⟨p, hp, rfl⟩)
    unfold Qd9 at h
    split at h
    · rename_i e _ _ _ ht
      split at h
      · rename_i d hde
        split at h
        · cases h
        · rename_i hc
          split at h
          · rename_i flat hfl
            split at h
            · rename_i ps n H2 htc
              split at h
              · rename_i hr
                obtain ⟨hle, δ, hδ⟩ := Qim htc
                have hH2 : H2 = ov s.nx n δ s.H := by
                  have := hδ s.H
                  rw [htc] at this
                  simp only [Option.some.injEq, Prod.mk.injEq, true_and] at this
                  exact this
                rw [hH2, Qlq, Xgi hle (Nat.le_succ _)] at h
                obtain ⟨h1, h2⟩ := Qlh h
                refine ⟨_, _, _, by omega, fun m hm _ => ?_, h1, fun s2 ha => ?_⟩
                · have := Qis hr m hm
                  omega
                · unfold Qd9
                  simp only [ht, hde, if_neg hc, hev s2 ha, hfl, ha.nx, hδ s2.H, hroom s2 _ ha, hr, if_true]
                  rw [Qlq, Xgi hle (Nat.le_succ _)]
                  have := h2 s2 ha.N
                  rw [ha.nx] at this
                  exact this
              · cases h
            · cases h
          · cases h
      · cases h
    · cases h
  | makeSlice t l c =>
    simp only [ho] at h ⊢
    have hl : ∀ s2, Agree ops o s s2 → ev s2 l = ev s l := fun s2 ha => Qd8 ha.tm (by simp [ho, Op.operands])
    have hc' : ∀ s2, Agree ops o s s2 → ev s2 c = ev s c := fun s2 ha => Qd8 ha.tm (by simp [ho, Op.operands])
    unfold Qva at h
    split at h
    · rename_i e _ _ _ k n k' m ht hln hcm
      split at h
      · rename_i d hde
        split at h
        · rename_i hc
          rw [Qlq] at h
          obtain ⟨h1, h2⟩ := Qlh h
          refine ⟨_, _, _, Nat.le_succ _, fun m hm _ => Qis hc.2.2.2.2.2.2 m hm, h1, fun s2 ha => ?_⟩
          unfold Qva
          rw [hl s2 ha, hc' s2 ha, ht, hln, hcm]
          simp only [hde]
          rw [if_pos (by rw [hroom s2 _ ha]; exact hc), Qlq]
          have := h2 s2 ha.N
          rw [ha.nx] at this ⊢
          exact this
        · cases h
      · cases h
    · cases h
  | call c =>
    simp only [ho] at h ⊢
    cases hcal : c.callee with
    | builtin b =>
      rw [hcal] at h
      have hb : b ≠ .append := fun hh => by rw [hh] at hcal; simp [Qeu, ho, hcal] at hq
      cases b <;> first | exact absurd rfl hb | exact hval h
    | value v => rw [hcal] at h; exact hval h
    | invoke r m => rw [hcal] at h; exact hval h
  | _ =>
    simp only [ho] at h ⊢
    exact hval h
end
end Go.Proofs.YtmiojnibngncaaaGreat
