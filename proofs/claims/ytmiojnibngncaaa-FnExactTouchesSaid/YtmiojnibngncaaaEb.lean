/- The value-level engine, second bundle: contracts, what comes back from calls. -/
import Derived.Test.YtmiojnibngncaaaEa
/- The value-level engine, fifteenth part: what a call promises, what is handed to it, what comes back. -/
namespace Go.Proofs.Ytmiojnibngncaaa
open Go Go.RowKit
set_option linter.unusedVariables false
set_option linter.unusedSimpArgs false

/-- A tree without references. -/
inductive PT.Pur : PT → Prop
  | int (k n) : PT.Pur (.int k n)
  | bool (b) : PT.Pur (.bool b)
  | str (s) : PT.Pur (.str s)
  | list (e rows) : (∀ r ∈ rows, ∀ c ∈ r, PT.Pur c) → PT.Pur (.list e rows)

def PurRows (rows : List (List PT)) : Prop := ∀ r ∈ rows, ∀ c ∈ r, PT.Pur c

theorem pur_at : ∀ (p : Path) (c : PT), PT.Pur c → ∀ e rows, At p c = some (e, rows) → PurRows rows
  | [], c, h, e, rows, ha => by
    cases c <;> simp [At] at ha
    obtain ⟨rfl, rfl⟩ := ha
    cases h with
    | list _ _ h => exact h
  | (i, j) :: p, c, h, e, rows, ha => by
    cases c with
    | list e0 rows0 =>
      simp only [At] at ha
      cases h with
      | list _ _ h =>
        cases hr : rows0[i]? with
        | none => rw [hr] at ha; simp at ha
        | some r =>
          rw [hr] at ha
          simp only [Option.getD_some] at ha
          cases hc : r[j]? with
          | none => rw [hc] at ha; simp at ha
          | some c' =>
            rw [hc] at ha
            simp only [Option.bind_some] at ha
            exact pur_at p c' (h r (List.mem_of_getElem? hr) c' (List.mem_of_getElem? hc)) e rows ha
    | _ => simp [At] at ha

/-- A cell of a variable, as it is read. -/
def VV.pt (H : Heap) : VV → PT
  | .int k n => .int k n
  | .bool b => .bool b
  | .str s => .str s
  | .nl e => .list e []
  | .fr e rows => .list e rows
  | .rf T n => match H T with
    | .root e rows => .list e (rows.take n)
    | _ => .hole
  | _ => .hole
def ptOk (H : Heap) : VV → Prop
  | .int .. | .bool _ | .str _ | .nl _ | .fr .. => True
  | .rf T n => match H T with
    | .root _ rows => n ≤ rows.length ∧ PurRows rows
    | _ => False
  | _ => False
def frzBox (H : Heap) (T j : Nat) : VV := match H T with
  | .box cs => .fp ((cs.drop j).map (VV.pt H))
  | _ => .any
def frzSl (H : Heap) (T j n : Nat) (e : TypeId) : VV := match H T with
  | .box cs => .fr e (((cs.drop j).take n).map fun c => [VV.pt (fun _ => .dead) c])
  | _ => .any
def oneS : VV → Bool
  | .int .. | .bool _ | .str _ => true
  | _ => false
def frzCap (H : Heap) : VV → VV
  | .bp T j => frzBox H T j
  | x => x
def capsOk (H : Heap) : VV → Prop
  | .bp T j => match H T with
    | .box cs => ∀ x ∈ cs.drop j, ptOk H x
    | _ => False
  | .fp _ => True
  | _ => False

/-- A value as a call is handed it. -/
def frzC (H : Heap) : VV → VV
  | .nl e => .fr e []
  | .rf T n => match H T with
    | .root e rows => .fr e (rows.take n)
    | _ => .any
  | .bp T j => frzBox H T j
  | .bs T j n e => frzSl H T j n e
  | .clo f caps => .clo f (caps.map (frzCap H))
  | x => x
def frzA (H : Heap) : VV → VV
  | .agg vs => .agg (vs.map (frzC H))
  | x => frzC H x

def frzOkC (H : Heap) : VV → Prop
  | .rf T n => match H T with
    | .root e rows => n ≤ rows.length ∧ PurRows rows
    | _ => False
  | .bp T j => match H T with
    | .box cs => ∀ x ∈ cs.drop j, ptOk H x
    | _ => False
  | .bs T j n _ => match H T with
    | .box cs => j + n ≤ cs.length ∧ ∀ x ∈ (cs.drop j).take n, oneS x = true
    | _ => False
  | .clo _ caps => ∀ c ∈ caps, capsOk H c
  | .np .. | .agg _ | .tup _ => False
  | _ => True
def frzOk (H : Heap) : VV → Prop
  | .agg vs => ∀ x ∈ vs, frzOkC H x
  | x => frzOkC H x

/-- The slices that a call hands back. -/
def Hp (l : List (TypeId × List (List PT))) : Heap := fun T => match l[T]? with
  | some (e, rows) => .root e rows
  | none => .dead

def Gh.nil : Gh := ⟨fun _ _ => undef, fun _ => (0, 0), fun _ => none, fun _ _ => none, fun _ => false⟩

def outC : VV → Bool
  | .int _ _ | .bool _ | .str _ | .rf _ _ | .err _ | .any => true
  | _ => false
def outA : VV → Bool
  | .agg vs => vs.all outC
  | x => outC x
def outV : VV → Bool
  | .tup vs => vs.all outA
  | x => outA x

def shC (k : Nat) : VV → VV
  | .rf T n => .rf (k + T) n
  | x => x
def shA (k : Nat) : VV → VV
  | .agg vs => .agg (vs.map (shC k))
  | x => shC k x
def shV (k : Nat) : VV → VV
  | .tup vs => .tup (vs.map (shA k))
  | x => shA k x

def botEnv (w : World) : Env := ⟨w, fun _ _ => False, fun _ _ => True, fun _ _ _ _ _ _ => trivial⟩

/-- What a function gives for arguments that it only reads. -/
structure SatP (P : Program) (f : FuncId) (args : List VV) (v : VV) (l : List (TypeId × List (List PT))) : Prop where
  fn : ∃ fn, P.funcs[f]? = some fn ∧ (fn.name == "runtime.NumGoroutine") = false ∧ fn.body.isNone = false
  out : outV v = true
  pur : ∀ x ∈ l, PurRows x.2
  run : ∀ (w : World) (vals : List Value), vals.length = args.length → (∀ (j : Nat) (x : VV) (u : Value), args[j]? = some x → vals[j]? = some u → ARel P (botEnv w) (fun _ => .dead) Gh.nil x u) →
    Calls P f vals.toArray w fun e w' => ∃ val g', e = .returned val ∧ HRel P (botEnv w) g' (Hp l) w' ∧ (∀ T, l.length ≤ T → g'.sn T = false) ∧ VRel P (botEnv w) (Hp l) g' v val

section
variable {P : Program} {E : Env} {g g' : Gh} {H : Heap} {s : St} {a : Act} {w w' : World} {ty : Ty}

theorem cell_of_heap {b o : Nat} {cur : Array Value} {e : TypeId} {fz : Nat × Nat} {u : Value} (h : w.heap[b]? = some (.cells cur e fz)) (hu : cur[o]? = some u) : w.cell? ⟨b, o, none⟩ = some u := by
  simp [World.cell?, h, hu]

theorem frm_bot (h : Frm (botEnv w) w') {b : Nat} (hb : b < w.heap.size) : w'.heap[b]? = w.heap[b]? := by
  cases hx : w.heap[b]? with
  | none => rw [Array.getElem?_eq_none_iff] at hx; omega
  | some x =>
    by_cases hc : ∃ c e fz, x = Obj.cells c e fz
    · obtain ⟨c, e, fz, rfl⟩ := hc
      obtain ⟨c', h1, h2, h3⟩ := h.cells b c e fz hx
      have : c' = c := by
        apply Array.ext_getElem?
        intro i
        exact h3 i (fun h => h)
      rw [h1, this]
    · exact h.other b x hx (fun c e fz hh => hc ⟨c, e, fz, hh⟩)

/-- What came in reads, for a call, as what came in. -/
theorem rd_frame {x : PT} {v : Value} (hf : Frm E w) (h : Rd P E x v) : Rd P (botEnv w) x v := by
  cases x <;> try exact h
  case list e rows =>
    obtain ⟨fh, h0, h1⟩ := h
    refine ⟨fh, h0, fun p e' rows' hp => ?_⟩
    obtain ⟨A, cap, h2, h3, h4, h5⟩ := h1 p e' rows' hp
    refine ⟨A, cap, h2, h3, h4, ?_⟩
    rcases h5 with h5 | ⟨b, o, h5, h6⟩
    · exact .inl h5
    · refine .inr ⟨b, o, h5, fun i r hr => ?_⟩
      obtain ⟨h7, h8⟩ := h6 i r hr
      refine ⟨h7, fun j c hc => ?_⟩
      obtain ⟨u, h9, h10⟩ := h8 j c hc
      have h11 := rd_cell hf h9
      refine ⟨u, ⟨?_, fun h => h, h11⟩, h10⟩
      have : b < E.w0.heap.size := h9.1
      exact Nat.lt_of_lt_of_le this hf.size

theorem fcell_of_ocell {c : PT} {hh u : Value} (hc : c.Pur) (h : ocell H g c hh u) : fcell c hh u := by
  cases hc <;> exact h

/-- A slice of the call's own, as it is read. -/
theorem rd_root (h : HRel P E g H w) {T : Nat} {e : TypeId} {rows : List (List PT)} (hT : H T = .root e rows) (hp : PurRows rows) {n : Nat} (hn : n ≤ rows.length) : Rd P (botEnv w) (.list e (rows.take n)) (cutv n (g.hd T [])) := by
  have node : ∀ p e' rows', At p (.list e rows) = some (e', rows') → ∀ m, m ≤ rows'.length → RdNode P (botEnv w) e' (rows'.take m) (fun i j => g.hd T (p ++ [(i, j)])) (cutv m (g.hd T p)) := by
    intro p e' rows' hat m hm
    have hpur : PurRows rows' := pur_at p (.list e rows) (.list _ _ hp) e' rows' hat
    have hlen : (rows'.take m).length = m := by simp; omega
    rcases h.node T e rows hT p e' rows' hat with ⟨h1, h2⟩ | ⟨b, cap, cur, h1, h2, h3, h4, h5, h6, h7, h8⟩
    · subst h2
      simp at hm
      subst hm
      exact ⟨none, 0, by rw [h1]; rfl, by simp, by simp [maxLen], .inl (by simp)⟩
    · refine ⟨_, cap, by rw [h1, hlen]; rfl, by rw [hlen]; omega, h6, .inr ⟨b, 0, rfl, fun i r hr => ?_⟩⟩
      rw [List.getElem?_take] at hr
      split at hr
      · obtain ⟨h9, h10⟩ := h8 i r hr
        refine ⟨h9, fun j c hc => ?_⟩
        obtain ⟨u, h11, h12⟩ := h10 j c hc
        refine ⟨u, ⟨(Array.getElem?_eq_some_iff.1 h4).1, fun h => h, ?_⟩, fcell_of_ocell (hpur r (List.mem_of_getElem? hr) c (List.mem_of_getElem? hc)) h12⟩
        rw [Nat.zero_add]
        exact cell_of_heap h4 h11
      · cases hr
  refine ⟨fun p => if p = [] then cutv n (g.hd T []) else g.hd T p, by simp, fun p e' rows' hat => ?_⟩
  cases p with
  | nil =>
    simp only [At, Option.some.injEq, Prod.mk.injEq] at hat
    obtain ⟨rfl, rfl⟩ := hat
    have := node [] e rows rfl n hn
    simpa using this
  | cons x q =>
    obtain ⟨i, j⟩ := x
    have hat' : At ((i, j) :: q) (.list e rows) = some (e', rows') := by
      simp only [At] at hat ⊢
      rw [List.getElem?_take] at hat
      split at hat
      · exact hat
      · simp at hat
    have h1 := node _ e' rows' hat' rows'.length (Nat.le_refl _)
    rw [List.take_length] at h1
    have h2 : cutv rows'.length (g.hd T ((i, j) :: q)) = g.hd T ((i, j) :: q) := by
      rcases h.node T e rows hT _ e' rows' hat' with ⟨h1, h2⟩ | ⟨b, cap, cur, h1, _⟩
      · rw [h1, h2]; rfl
      · rw [h1]; rfl
    rw [h2] at h1
    simpa using h1

theorem rd_nil {e : TypeId} {E : Env} : Rd P E (.list e []) (.slice none 0 0) := by
  refine ⟨fun _ => .slice none 0 0, rfl, fun p e' rows' hp => ?_⟩
  cases p with
  | nil =>
    simp only [At, Option.some.injEq, Prod.mk.injEq] at hp
    obtain ⟨rfl, rfl⟩ := hp
    exact ⟨none, 0, rfl, by simp, by simp [maxLen], .inl rfl⟩
  | cons x q => obtain ⟨i, j⟩ := x; simp [At] at hp

theorem pt_rel (h : HRel P E g H w) {x : VV} {u : Value} (hx : CRel P E H g x u) (hok : ptOk H x) : Rd P (botEnv w) (x.pt H) u := by
  cases x with
  | nl e => have hx : u = .slice none 0 0 := hx; subst hx; exact rd_nil
  | fr e rows => exact rd_frame (x := .list e rows) h.frm hx
  | rf T n =>
    simp only [ptOk] at hok
    split at hok
    · rename_i e rows hT
      obtain ⟨h1, h2⟩ := hok
      obtain ⟨_, _, hv⟩ := hx
      have hv := hv (by simp [hT, Ent.isRoot])
      simp only [VV.pt, hT]
      rw [hv]
      exact rd_root h hT h2 h1
    · exact hok.elim
  | int => exact hx
  | bool => exact hx
  | str => exact hx
  | _ => exact hok.elim

theorem fp_frame (hf : Frm E w) {row : List PT} {v : Value} (hx : CapRel P E H g (.fp row) v) {H' : Heap} {g' : Gh} : CapRel P (botEnv w) H' g' (.fp row) v := by
  obtain ⟨b, o, h1, h2⟩ := hx
  refine ⟨b, o, h1, fun j c hc => ?_⟩
  obtain ⟨u, h3, h4⟩ := h2 j c hc
  exact ⟨u, ⟨Nat.lt_of_lt_of_le h3.1 hf.size, fun h => h, rd_cell hf h3⟩, rd_frame hf h4⟩

theorem box_frame (h : HRel P E g H w) {T j : Nat} {v : Value} (hx : CapRel P E H g (.bp T j) v) (hok : capsOk H (.bp T j)) {H' : Heap} {g' : Gh} : CapRel P (botEnv w) H' g' (frzBox H T j) v := by
  simp only [capsOk] at hok
  split at hok
  · rename_i cs hT
    obtain ⟨_, _, hv⟩ := hx
    have hv := hv (by simp [hT, Ent.live])
    obtain ⟨cur, e, hw, _, hc⟩ := h.box T cs hT
    simp only [frzBox, hT]
    refine ⟨_, _, hv, fun k c hk => ?_⟩
    simp only [List.getElem?_map, List.getElem?_drop, Option.map_eq_some_iff] at hk
    obtain ⟨x, hx, rfl⟩ := hk
    obtain ⟨_, _, u, hu, hr⟩ := hc (j + k) x hx
    refine ⟨u, ⟨(Array.getElem?_eq_some_iff.1 hw).1, fun h => h, ?_⟩, pt_rel h hr (hok x (List.mem_of_getElem? (i := k) (by rw [List.getElem?_drop]; exact hx)))⟩
    have := cell_of_heap hw hu
    rw [Nat.add_assoc]
    exact this
  · exact hok.elim

theorem scal_pt {E : Env} {H : Heap} {g : Gh} {x : VV} {u : Value} (h : oneS x = true) (hx : CRel P E H g x u) (f : Value) : fcell (VV.pt (fun _ => .dead) x) f u := by
  cases x <;> first | exact hx | cases h
theorem bs_frame {E2 : Env} (h : HRel P E g H w) {T j n : Nat} {e : TypeId} {v : Value} (hx : CRel P E H g (.bs T j n e) v) (hok : frzOkC H (.bs T j n e))
    (hrd : ∀ cs, H T = .box cs → ∀ k u, k < cs.length → w.cell? ⟨(g.bx T).1, (g.bx T).2 + k, none⟩ = some u → E2.rd (g.bx T).1 ((g.bx T).2 + k) u) {H' : Heap} {g' : Gh} : CRel P E2 H' g' (frzSl H T j n e) v := by
  obtain ⟨_, _, ⟨h1, h2⟩, hv⟩ := hx
  simp only [frzOkC] at hok
  split at hok
  · rename_i cs hT
    obtain ⟨h3, h4⟩ := hok
    have hv := hv (by simp [hT, Ent.live])
    obtain ⟨cur, e0, hw, _, hc⟩ := h.box T cs hT
    simp only [frzSl, hT]
    have hlen : (((cs.drop j).take n).map fun c => [VV.pt (fun _ => .dead) c]).length = n := by simp; omega
    refine ⟨fun _ => v, rfl, fun p e' rows' hp => ?_⟩
    have hcell : ∀ (i : Nat) (r : List PT), (((cs.drop j).take n).map fun c => [VV.pt (fun _ => .dead) c])[i]? = some r → ∃ x, cs[j + i]? = some x ∧ r = [VV.pt (fun _ => .dead) x] ∧ oneS x = true := fun i r hr => by
      simp only [List.getElem?_map, Option.map_eq_some_iff] at hr
      obtain ⟨x, hx, rfl⟩ := hr
      have hm := h4 x (List.mem_of_getElem? hx)
      rw [List.getElem?_take] at hx
      split at hx
      · rw [List.getElem?_drop] at hx; exact ⟨x, hx, rfl, hm⟩
      · cases hx
    cases p with
    | nil =>
      simp only [At, Option.some.injEq, Prod.mk.injEq] at hp
      obtain ⟨rfl, rfl⟩ := hp
      refine ⟨_, n, by rw [hlen]; exact hv, by rw [hlen]; exact Nat.le_refl _, h2, .inr ⟨_, _, rfl, fun i r hr => ?_⟩⟩
      obtain ⟨x, hx, rfl, hm⟩ := hcell i r hr
      refine ⟨by simp [h1], fun k c hk => ?_⟩
      match k with
      | 0 =>
        simp only [List.getElem?_cons_zero, Option.some.injEq] at hk
        subst hk
        obtain ⟨_, _, u, hu, hr⟩ := hc (j + i) x hx
        refine ⟨u, ?_, scal_pt hm hr _⟩
        rw [h1, Nat.mul_one, Nat.add_zero, Nat.add_assoc]
        exact hrd cs hT _ u (List.getElem?_eq_some_iff.1 hx).1 (cell_of_heap hw hu)
      | k + 1 => simp at hk
    | cons ij q =>
      obtain ⟨i, k⟩ := ij
      exfalso
      simp only [At] at hp
      cases hr : (((cs.drop j).take n).map fun c => [VV.pt (fun _ => .dead) c])[i]? with
      | none => rw [hr] at hp; simp at hp
      | some r =>
        obtain ⟨x, hx, rfl, hm⟩ := hcell i r hr
        rw [hr] at hp
        match k with
        | 0 =>
          simp only [Option.getD_some, List.getElem?_cons_zero, Option.bind_some] at hp
          cases x <;> first | (cases q with | nil => simp [VV.pt, At] at hp | cons a b => simp [VV.pt, At] at hp) | cases hm
        | k + 1 => simp at hp
  · exact hok.elim
theorem frzC_rel (h : HRel P E g H w) {x : VV} {u : Value} (hx : CRel P E H g x u) (hok : frzOkC H x) : CRel P (botEnv w) (fun _ => .dead) Gh.nil (frzC H x) u := by
  cases x with
  | nl e =>
    have hx : u = .slice none 0 0 := hx
    subst hx
    exact rd_nil
  | rf T n =>
    simp only [frzOkC] at hok
    split at hok
    · rename_i e rows hT
      obtain ⟨h1, h2⟩ := hok
      obtain ⟨_, _, hv⟩ := hx
      have hv := hv (by simp [hT, Ent.isRoot])
      simp only [frzC, hT]
      rw [hv]
      exact rd_root h hT h2 h1
    · exact hok.elim
  | fr e rows => exact rd_frame (x := .list e rows) h.frm hx
  | clo f caps =>
    obtain ⟨cs, h1, h2, h3⟩ := hx
    refine ⟨cs, h1, by simpa using h2, fun j c u hc hu => ?_⟩
    simp only [List.getElem?_map, Option.map_eq_some_iff] at hc
    obtain ⟨c0, hc0, rfl⟩ := hc
    have hr := h3 j c0 u hc0 hu
    have ho := hok c0 (List.mem_of_getElem? hc0)
    cases c0 <;> try exact ho.elim
    case bp T j => exact box_frame h hr ho
    case fp row => exact fp_frame h.frm hr
  | bp T j =>
    have := box_frame (H' := fun _ => .dead) (g' := Gh.nil) h (T := T) (j := j) hx hok
    simp only [frzC, frzBox] at this ⊢
    split at this
    · exact this
    · exact this.elim
  | fp row => exact fp_frame h.frm (g := g) (H := H) (H' := fun _ => .dead) (g' := Gh.nil) hx
  | bs T j n e =>
    refine bs_frame h hx hok fun cs hT k u hk hu => ?_
    obtain ⟨x, hx⟩ : ∃ x, cs[k]? = some x := ⟨_, List.getElem?_eq_getElem hk⟩
    obtain ⟨cur, e0, hw, _, _⟩ := h.box T cs hT
    exact ⟨(Array.getElem?_eq_some_iff.1 hw).1, fun h => h, hu⟩
  | np => exact hok.elim
  | agg => exact hok.elim
  | tup => exact hok.elim
  | _ => exact hx

theorem frz_rel (h : HRel P E g H w) {x : VV} {u : Value} (hx : VRel P E H g x u) (hok : frzOk H x) : ARel P (botEnv w) (fun _ => .dead) Gh.nil (frzA H x) u := by
  by_cases ha : ∃ vs, x = .agg vs
  · obtain ⟨vs, rfl⟩ := ha
    obtain ⟨cs, h1, h2, h3⟩ := hx
    refine ⟨cs, h1, by simpa using h2, fun j c u hc hu => ?_⟩
    simp only [List.getElem?_map, Option.map_eq_some_iff] at hc
    obtain ⟨c0, hc0, rfl⟩ := hc
    exact frzC_rel h (h3 j c0 u hc0 hu) (hok c0 (List.mem_of_getElem? hc0))
  · have hne : ∀ vs, x ≠ .agg vs := fun vs hh => ha ⟨vs, hh⟩
    have hnt : ∀ vs, x ≠ .tup vs := fun vs hh => by subst hh; exact hok
    rw [vrel_eq hnt, arel_eq hne] at hx
    have h1 : frzA H x = frzC H x := by cases x <;> first | rfl | exact absurd rfl (hne _)
    have h2 : frzOkC H x := by cases x <;> first | exact hok | exact absurd rfl (hne _)
    rw [h1]
    exact arel_of_crel (frzC_rel h hx h2)

/-! ### What comes back -/
def addH (n : Nat) (l : List (TypeId × List (List PT))) (H : Heap) : Heap :=
  match l with
  | [] => H
  | (e, rows) :: l => addH (n + 1) l (updH n (.root e rows) H)

theorem addH_eq : ∀ (l : List (TypeId × List (List PT))) (n : Nat) (H : Heap) (T : Nat), addH n l H T = if n ≤ T ∧ T < n + l.length then Hp l (T - n) else H T
  | [], n, H, T => by simp [addH]; omega
  | (e, rows) :: l, n, H, T => by
    simp only [addH]
    rw [addH_eq l (n + 1) (updH n (.root e rows) H) T]
    by_cases h1 : T = n
    · subst h1
      rw [if_neg (by omega), if_pos (by simp), updH_same]
      simp [Hp]
    · rw [updH_ne _ _ h1]
      by_cases h2 : n ≤ T ∧ T < n + (l.length + 1)
      · rw [if_pos (by omega), if_pos (by simpa using h2)]
        obtain ⟨k, rfl⟩ : ∃ k, T = n + 1 + k := ⟨T - (n + 1), by omega⟩
        rw [show n + 1 + k - (n + 1) = k by omega, show n + 1 + k - n = k + 1 by omega]
        simp [Hp]
      · rw [if_neg (by omega), if_neg (by simpa using h2)]

def Gh.imp (g g' : Gh) (n k sz : Nat) : Gh :=
  { hd := fun T p => if n ≤ T ∧ T < n + k then g'.hd (T - n) p else g.hd T p
    bx := g.bx
    own := fun b => if b < sz then g.own b else (g'.own b).map fun x => (n + x.1, x.2)
    ob := g.ob
    sn := fun T => if n ≤ T ∧ T < n + k then g'.sn (T - n) else g.sn T }

theorem imp_crel {l : List (TypeId × List (List PT))} {n sz : Nat} (hk : ∀ T, l.length ≤ T → g'.sn T = false) {x : VV} {v : Value} {E' : Env} (ho : outC x = true) (h : CRel P E' (Hp l) g' x v) :
    CRel P E (addH n l H) (g.imp g' n l.length sz) (shC n x) v := by
  cases x <;> first | exact h | (simp [outC] at ho; done) | skip
  case rf T m =>
    obtain ⟨h1, h2, h3⟩ := h
    have hlt : T < l.length := by
      rcases Nat.lt_or_ge T l.length with hh | hh
      · exact hh
      · rw [hk T hh] at h1; cases h1
    have hc : n ≤ n + T ∧ n + T < n + l.length := by omega
    refine ⟨by simp only [Gh.imp, if_pos hc, Nat.add_sub_cancel_left]; exact h1, h2, fun hr => ?_⟩
    rw [addH_eq, if_pos hc, Nat.add_sub_cancel_left] at hr
    have := h3 hr
    simp only [Gh.imp, if_pos hc, Nat.add_sub_cancel_left]
    exact this

theorem outA_spec {x : VV} (h : outA x = true) : (∃ vs, x = .agg vs ∧ ∀ c ∈ vs, outC c = true) ∨ ((∀ vs, x ≠ .agg vs) ∧ outC x = true) := by
  cases x with
  | agg vs => exact .inl ⟨vs, rfl, by simpa [outA] using h⟩
  | _ => exact .inr ⟨fun _ hh => (by cases hh), h⟩

theorem imp_arel {l : List (TypeId × List (List PT))} {n sz : Nat} (hk : ∀ T, l.length ≤ T → g'.sn T = false) {x : VV} {v : Value} {E' : Env} (ho : outA x = true) (h : ARel P E' (Hp l) g' x v) :
    ARel P E (addH n l H) (g.imp g' n l.length sz) (shA n x) v := by
  rcases outA_spec ho with ⟨vs, rfl, hvs⟩ | ⟨hne, hoc⟩
  · obtain ⟨cs, h1, h2, h3⟩ := h
    refine ⟨cs, h1, by simpa using h2, fun j c u hc hu => ?_⟩
    simp only [List.getElem?_map, Option.map_eq_some_iff] at hc
    obtain ⟨c0, hc0, rfl⟩ := hc
    exact imp_crel hk (hvs c0 (List.mem_of_getElem? hc0)) (h3 j c0 u hc0 hu)
  · rw [arel_eq hne] at h
    have : shA n x = shC n x := by cases x <;> first | rfl | exact absurd rfl (hne _)
    rw [this]
    exact arel_of_crel (imp_crel hk hoc h)

theorem imp_vrel {l : List (TypeId × List (List PT))} {n sz : Nat} (hk : ∀ T, l.length ≤ T → g'.sn T = false) {x : VV} {v : Value} {E' : Env} (ho : outV x = true) (h : VRel P E' (Hp l) g' x v) :
    VRel P E (addH n l H) (g.imp g' n l.length sz) (shV n x) v := by
  by_cases ht : ∃ vs, x = .tup vs
  · obtain ⟨vs, rfl⟩ := ht
    obtain ⟨cs, h1, h2, h3⟩ := h
    refine ⟨cs, h1, by simpa using h2, fun j c u hc hu => ?_⟩
    simp only [List.getElem?_map, Option.map_eq_some_iff] at hc
    obtain ⟨c0, hc0, rfl⟩ := hc
    have ho' : outA c0 = true := by
      simp only [outV, List.all_eq_true] at ho
      exact ho c0 (List.mem_of_getElem? hc0)
    exact imp_arel hk ho' (h3 j c0 u hc0 hu)
  · have hne : ∀ vs, x ≠ .tup vs := fun vs hh => ht ⟨vs, hh⟩
    rw [vrel_eq hne] at h
    have h1 : shV n x = shA n x := by cases x <;> first | rfl | exact absurd rfl (hne _)
    have h2 : outA x = true := by cases x <;> first | exact ho | exact absurd rfl (hne _)
    rw [h1]
    exact vrel_of_arel (imp_arel hk h2 h)

theorem hrel_import (h : HRel P E g H w) {l : List (TypeId × List (List PT))} {n : Nat} (hn : ∀ T, n ≤ T → T < n + l.length → g.sn T = false)
    (h' : HRel P (botEnv w) g' (Hp l) w') (hp : ∀ x ∈ l, PurRows x.2) :
    HRel P E (g.imp g' n l.length w.heap.size) (addH n l H) w' ∧ HLe g H (g.imp g' n l.length w.heap.size) (addH n l H) := by
  have hsn : ∀ T, g.sn T = true → ¬ (n ≤ T ∧ T < n + l.length) := fun T hT hh => by rw [hn T hh.1 hh.2] at hT; cases hT
  have hle : HLe g H (g.imp g' n l.length w.heap.size) (addH n l H) := by
    refine ⟨fun T hT => ?_, fun T e rows hT hh => ?_, fun T hT hh => ?_, fun T hT _ => ?_, fun T hT _ => rfl⟩
    · simp only [Gh.imp, if_neg (hsn T hT)]; exact hT
    · rw [addH_eq, if_neg (hsn T hT)] at hh; exact ⟨rows, hh⟩
    · rwa [addH_eq, if_neg (hsn T hT)] at hh
    · simp only [Gh.imp, if_neg (hsn T hT)]
  have hfr : Frm E w' := h.frm.step h'.frm.os h'.frm.tape h'.frm.output h'.frm.size fun b hb => .inl (frm_bot h'.frm (Nat.lt_of_lt_of_le hb h.frm.size))
  refine ⟨⟨hfr, fun T e rows hT p e2 rows2 hat => ?_, fun T cs hT => ?_, fun T hT => ?_⟩, hle⟩
  · rw [addH_eq] at hT
    by_cases c : n ≤ T ∧ T < n + l.length
    · rw [if_pos c] at hT
      have hpur : PurRows rows := by
        simp only [Hp] at hT
        split at hT
        · rename_i e0 rows0 hl
          injection hT with e1 e2
          subst e2
          exact hp _ (List.mem_of_getElem? hl)
        · cases hT
      have hpur2 : PurRows rows2 := pur_at p (.list e rows) (.list _ _ hpur) e2 rows2 hat
      have hhd : ∀ q, (g.imp g' n l.length w.heap.size).hd T q = g'.hd (T - n) q := fun q => by simp only [Gh.imp, if_pos c]
      rcases h'.node (T - n) e rows hT p e2 rows2 hat with ⟨h1, h2⟩ | ⟨b, cap, cur, h1, h2, h3, h4, h5, h6, h7, h8⟩
      · exact .inl ⟨by rw [hhd]; exact h1, h2⟩
      · have hb : w.heap.size ≤ b := by
          rcases h3 with h3 | h3
          · exact h3
          · exact (h3 0).elim
        refine .inr ⟨b, cap, cur, by rw [hhd]; exact h1, ?_, .inl (Nat.le_trans h.frm.size hb), h4, h5, h6, h7, fun i r hr => ?_⟩
        · simp only [Gh.imp, if_neg (Nat.not_lt.2 hb), h2, Option.map_some]
          rw [Nat.add_sub_cancel' c.1]
        · obtain ⟨h9, h10⟩ := h8 i r hr
          refine ⟨h9, fun j x hx => ?_⟩
          obtain ⟨u, h11, h12⟩ := h10 j x hx
          refine ⟨u, h11, ?_⟩
          rw [hhd]
          have := hpur2 r (List.mem_of_getElem? hr) x (List.mem_of_getElem? hx)
          cases this <;> exact h12
    · rw [if_neg c] at hT
      refine node_mono hle (h.node T e rows hT p e2 rows2 hat) (fun q => by simp only [Gh.imp, if_neg c]) (fun b hb ho => ?_) (fun b hb _ => frm_bot h'.frm hb)
      simp only [Gh.imp, if_pos hb]; exact ho
  · rw [addH_eq] at hT
    by_cases c : n ≤ T ∧ T < n + l.length
    · rw [if_pos c] at hT
      simp only [Hp] at hT
      split at hT <;> cases hT
    · rw [if_neg c] at hT
      have hb := h.box T cs hT
      have hlt : (g.bx T).1 < w.heap.size := by
        obtain ⟨cur, e1, h1, _⟩ := hb
        exact (Array.getElem?_eq_some_iff.1 h1).1
      exact box_mono hle hb rfl (fun hh => by simp only [Gh.imp, if_pos hlt]; exact hh) (fun _ _ hh => hh) (fun cur e he => ⟨cur, by rw [frm_bot h'.frm hlt]; exact he, fun _ _ _ => rfl⟩)
  · rw [addH_eq] at hT
    by_cases c : n ≤ T ∧ T < n + l.length
    · rw [if_pos c] at hT
      simp only [Gh.imp, if_pos c]
      exact h'.seen _ hT
    · rw [if_neg c] at hT
      simp only [Gh.imp, if_neg c]
      exact h.seen T hT

/-- The state behind a call. -/
def St.imp (s : St) (l : List (TypeId × List (List PT))) : St := { s with H := addH s.nx l s.H, nx := s.nx + l.length }

theorem rel_import (h : Rel P E g s a w) {l : List (TypeId × List (List PT))} (hr : s.room l.length = true) (h' : HRel P (botEnv w) g' (Hp l) w') (hk : ∀ T, l.length ≤ T → g'.sn T = false) (hp : ∀ x ∈ l, PurRows x.2)
    {v : VV} {val : Value} (ho : outV v = true) (hv : VRel P (botEnv w) (Hp l) g' v val) :
    ∃ g2, Rel P E g2 (s.imp l) a w' ∧ HLe g s.H g2 (s.imp l).H ∧ (∀ T, (s.nx ≤ T → s.nx + l.length ≤ T) → g2.sn T = g.sn T) ∧ VRel P E (s.imp l).H g2 (shV s.nx v) val := by
  obtain ⟨h1, h2⟩ := hrel_import h.heap (n := s.nx) (fun T ha hb => fresh_at h hr ha hb) h' hp
  refine ⟨_, rel_step (n' := s.nx + l.length) h h2 h1 (fun T hT => ?_), h2, fun T hT => ?_, imp_vrel hk ho hv⟩
  rotate_left
  · have : ¬ (s.nx ≤ T ∧ T < s.nx + l.length) := by omega
    simp only [Gh.imp, if_neg this]
  obtain ⟨f1, f2⟩ := fresh_on (Nat.le_add_right _ _) hT
  have : ¬ (s.nx ≤ T ∧ T < s.nx + l.length) := by omega
  simp only [Gh.imp, if_neg this]
  exact h.fresh T f1
end
end Go.Proofs.Ytmiojnibngncaaa

/- The value-level engine, fifteenth part, b: a slice that lies in a row of another one becomes part of its tree. -/
namespace Go.Proofs.Ytmiojnibngncaaa
open Go Go.RowKit
set_option linter.unusedVariables false
set_option linter.unusedSimpArgs false

/-- The slice that the cell (i, j) of T refers to, taken into T's tree. -/
def mergeH (H : Heap) (T i j : Nat) : Option Heap :=
  match H T with
  | .root e rows => match rows[i]? with
    | some r => match r[j]? with
      | some (.ref T' n) => match H T' with
        | .root e' rows' => if n ≤ rows'.length ∧ T' ≠ T then some (updH T (.root e (rows.set i (r.set j (.list e' (rows'.take n))))) (updH T' .dead H)) else none
        | _ => none
      | _ => none
    | _ => none
  | _ => none
def merges : List (Nat × Nat × Nat) → Heap → Option Heap
  | [], H => some H
  | (T, i, j) :: ms, H => match mergeH H T i j with
    | some H' => merges ms H'
    | none => none

def Gh.merge (g : Gh) (T i j T' n : Nat) : Gh :=
  { g with
    hd := fun X p => match p with
      | (a, b) :: q => if X = T ∧ a = i ∧ b = j then (if q = [] then cutv n (g.hd T' []) else g.hd T' q) else g.hd X ((a, b) :: q)
      | [] => g.hd X []
    own := fun b => match g.own b with
      | some (X, p) => if X = T' then some (T, (i, j) :: p) else some (X, p)
      | none => none }

section
variable {P : Program} {E : Env} {g g' : Gh} {H H' : Heap} {w w' : World}

/-- A node, under another name. -/
theorem node_move (h : HLe g H g' H') {X Y : Nat} {p q : Path} {e : TypeId} {rows : List (List PT)} (hn : NodeOK P E H g w X p e rows) (n : Nat) (hln : n ≤ rows.length) (h1 : g'.hd Y q = cutv n (g.hd X p)) (h2 : ∀ x, g'.hd Y (q ++ [x]) = g.hd X (p ++ [x]))
    (h3 : ∀ b, g.own b = some (X, p) → g'.own b = some (Y, q)) : NodeOK P E H' g' w Y q e (rows.take n) := by
  have hl : (rows.take n).length = n := by simp; omega
  rcases hn with ⟨k1, k2⟩ | ⟨b, cap, cur, k1, k2, k3, k4, k5, k6, k7, k8⟩
  · subst k2
    exact .inl ⟨by rw [h1, k1]; have : n = 0 := by simpa using hln
                   subst this; rfl, by simp⟩
  · refine .inr ⟨b, cap, cur, by rw [h1, k1, hl]; rfl, h3 b k2, k3, k4, by omega, k6, k7, fun i r hr => ?_⟩
    rw [List.getElem?_take] at hr
    split at hr
    · obtain ⟨m1, m2⟩ := k8 i r hr
      refine ⟨m1, fun j c hc => ?_⟩
      obtain ⟨u, m3, m4⟩ := m2 j c hc
      refine ⟨u, m3, ?_⟩
      rw [h2]
      exact ocell_mono h m4
    · cases hr

theorem At_put {e : TypeId} {rows : List (List PT)} {i j : Nat} {r : List PT} (hr : rows[i]? = some r) (hj : j < r.length) {c : PT} {a b : Nat} {p : Path} :
    At ((a, b) :: p) (.list e (rows.set i (r.set j c))) = if a = i ∧ b = j then At p c else At ((a, b) :: p) (.list e rows) := by
  have hlt : i < rows.length := (List.getElem?_eq_some_iff.1 hr).1
  simp only [At]
  by_cases ha : a = i
  · subst ha
    rw [List.getElem?_set_self hlt, hr]
    simp only [Option.getD_some]
    by_cases hb : b = j
    · subst hb
      simp [hj]
    · rw [List.getElem?_set_ne (Ne.symm hb)]
      simp [hb]
  · rw [List.getElem?_set_ne (Ne.symm ha)]
    simp [ha]

theorem At_take {e : TypeId} {rows : List (List PT)} {n : Nat} {x : Nat × Nat} {p : Path} {z : TypeId × List (List PT)} (h : At (x :: p) (.list e (rows.take n)) = some z) : At (x :: p) (.list e rows) = some z := by
  obtain ⟨a, b⟩ := x
  simp only [At] at h ⊢
  rw [List.getElem?_take] at h
  split at h
  · exact h
  · simp at h

theorem hrel_merge (h : HRel P E g H w) {T i j T' n : Nat} {e e' : TypeId} {rows rows' : List (List PT)} {r : List PT} (hT : H T = .root e rows) (hr : rows[i]? = some r) (hc : r[j]? = some (.ref T' n)) (hT' : H T' = .root e' rows') (hn : n ≤ rows'.length) (hne : T' ≠ T) :
    HRel P E (g.merge T i j T' n) (updH T (.root e (rows.set i (r.set j (.list e' (rows'.take n))))) (updH T' .dead H)) w ∧
      HLe g H (g.merge T i j T' n) (updH T (.root e (rows.set i (r.set j (.list e' (rows'.take n))))) (updH T' .dead H)) := by
  have hj : j < r.length := (List.getElem?_eq_some_iff.1 hc).1
  have hlt : i < rows.length := (List.getElem?_eq_some_iff.1 hr).1
  have hle : HLe g H (g.merge T i j T' n) (updH T (.root e (rows.set i (r.set j (.list e' (rows'.take n))))) (updH T' .dead H)) := by
    refine ⟨fun X hX => hX, fun X e2 rows2 _ hX => ?_, fun X _ hX => ?_, fun X _ _ => rfl, fun X _ _ => rfl⟩
    · by_cases c1 : X = T
      · subst c1
        rw [updH_same] at hX
        injection hX with e1 _
        subst e1
        exact ⟨_, hT⟩
      · rw [updH_ne _ _ c1] at hX
        by_cases c2 : X = T'
        · subst c2; rw [updH_same] at hX; cases hX
        · rw [updH_ne _ _ c2] at hX; exact ⟨_, hX⟩
    · by_cases c1 : X = T
      · subst c1; simp [hT, Ent.live]
      · rw [updH_ne _ _ c1] at hX
        by_cases c2 : X = T'
        · subst c2; rw [updH_same] at hX; cases hX
        · rwa [updH_ne _ _ c2] at hX
  have hown : ∀ (X : Nat) (p : Path) (b : Nat), X ≠ T' → g.own b = some (X, p) → (g.merge T i j T' n).own b = some (X, p) := fun X p b hX hb => by
    simp only [Gh.merge, hb, if_neg hX]
  have hown' : ∀ (p : Path) (b : Nat), g.own b = some (T', p) → (g.merge T i j T' n).own b = some (T, (i, j) :: p) := fun p b hb => by
    simp only [Gh.merge, hb, if_true]
  refine ⟨⟨h.frm, fun X e2 rows2 hX p e3 rows3 hp => ?_, fun X cs hX => ?_, fun X hX => ?_⟩, hle⟩
  · by_cases c1 : X = T
    · subst c1
      rw [updH_same] at hX
      injection hX with e1 e4
      subst e1
      subst e4
      cases p with
      | nil =>
        simp only [At, Option.some.injEq, Prod.mk.injEq] at hp
        obtain ⟨rfl, rfl⟩ := hp
        rcases h.node X e rows hT [] e rows rfl with ⟨_, k2⟩ | ⟨b, cap, cur, k1, k2, k3, k4, k5, k6, k7, k8⟩
        · subst k2; simp at hlt
        · refine .inr ⟨b, cap, cur, by simpa [Gh.merge] using k1, hown X [] b (Ne.symm hne) k2, k3, k4, by simpa using k5, k6, k7, fun a ra hra => ?_⟩
          by_cases ha : a = i
          · subst ha
            rw [List.getElem?_set_self hlt] at hra
            injection hra with hra
            subst hra
            obtain ⟨m1, m2⟩ := k8 a r hr
            refine ⟨by simpa using m1, fun k c hk => ?_⟩
            by_cases hkj : k = j
            · subst hkj
              rw [List.getElem?_set_self hj] at hk
              injection hk with hk
              subst hk
              obtain ⟨u, m3, m4⟩ := m2 k _ hc
              refine ⟨u, m3, ?_⟩
              obtain ⟨_, _, m5⟩ := m4
              have := m5 (by simp [hT', Ent.isRoot])
              simp [ocell, Gh.merge, this]
            · rw [List.getElem?_set_ne (Ne.symm hkj)] at hk
              obtain ⟨u, m3, m4⟩ := m2 k c hk
              refine ⟨u, m3, ?_⟩
              have : (g.merge X a j T' n).hd X ([] ++ [(a, k)]) = g.hd X ([] ++ [(a, k)]) := by simp [Gh.merge, hkj]
              rw [this]
              exact ocell_mono hle m4
          · rw [List.getElem?_set_ne (Ne.symm ha)] at hra
            obtain ⟨m1, m2⟩ := k8 a ra hra
            refine ⟨m1, fun k c hk => ?_⟩
            obtain ⟨u, m3, m4⟩ := m2 k c hk
            refine ⟨u, m3, ?_⟩
            have : (g.merge X i j T' n).hd X ([] ++ [(a, k)]) = g.hd X ([] ++ [(a, k)]) := by simp [Gh.merge, ha]
            rw [this]
            exact ocell_mono hle m4
      | cons x q =>
        obtain ⟨a, b⟩ := x
        rw [At_put hr hj] at hp
        by_cases hab : a = i ∧ b = j
        · rw [if_pos hab] at hp
          obtain ⟨rfl, rfl⟩ := hab
          cases q with
          | nil =>
            simp only [At, Option.some.injEq, Prod.mk.injEq] at hp
            obtain ⟨rfl, rfl⟩ := hp
            exact node_move hle (h.node T' e' rows' hT' [] e' rows' rfl) n hn (by simp [Gh.merge]) (fun x => by simp [Gh.merge]) (fun b hb => hown' [] b hb)
          | cons y q =>
            have hk := h.node T' e' rows' hT' _ e3 rows3 (At_take hp)
            have hcut : cutv rows3.length (g.hd T' (y :: q)) = g.hd T' (y :: q) := by
              rcases hk with ⟨k1, k2⟩ | ⟨b, cap, cur, k1, _⟩
              · rw [k1, k2]; rfl
              · rw [k1]; rfl
            have := node_move (g' := g.merge X a b T' n) (Y := X) (q := (a, b) :: y :: q) hle hk rows3.length (Nat.le_refl _) (by rw [hcut]; simp [Gh.merge]) (fun x => by simp [Gh.merge]) (fun b hb => hown' _ b hb)
            rwa [List.take_length] at this
        · rw [if_neg hab] at hp
          have hk := h.node X e rows hT _ e3 rows3 hp
          have hcut : cutv rows3.length (g.hd X ((a, b) :: q)) = g.hd X ((a, b) :: q) := by
            rcases hk with ⟨k1, k2⟩ | ⟨b, cap, cur, k1, _⟩
            · rw [k1, k2]; rfl
            · rw [k1]; rfl
          have := node_move (g' := g.merge X i j T' n) (Y := X) (q := (a, b) :: q) hle hk rows3.length (Nat.le_refl _) (by rw [hcut]; simp [Gh.merge, hab]) (fun x => by simp [Gh.merge, hab]) (fun b hb => hown X _ b (Ne.symm hne) hb)
          rwa [List.take_length] at this
    · rw [updH_ne _ _ c1] at hX
      have c2 : X ≠ T' := by rintro rfl; rw [updH_same] at hX; cases hX
      rw [updH_ne _ _ c2] at hX
      refine node_mono hle (h.node X e2 rows2 hX p e3 rows3 hp) (fun q => ?_) (fun b _ hb => hown X p b c2 hb) (fun _ _ _ => rfl)
      cases q with
      | nil => rfl
      | cons x q => obtain ⟨a, b⟩ := x; simp [Gh.merge, c1]
  · have c1 : X ≠ T := by rintro rfl; rw [updH_same] at hX; cases hX
    rw [updH_ne _ _ c1] at hX
    have c2 : X ≠ T' := by rintro rfl; rw [updH_same] at hX; cases hX
    rw [updH_ne _ _ c2] at hX
    refine box_mono hle (h.box X cs hX) rfl (fun hh => by simp only [Gh.merge, hh]) (fun _ _ hh => hh) (fun cur e he => ⟨cur, he, fun _ _ _ => rfl⟩)
  · by_cases c1 : X = T
    · subst c1; exact h.seen X (by simp [hT, Ent.live])
    · rw [updH_ne _ _ c1] at hX
      by_cases c2 : X = T'
      · subst c2; rw [updH_same] at hX; cases hX
      · rw [updH_ne _ _ c2] at hX; exact h.seen X hX

theorem hrel_merges : ∀ (ms : List (Nat × Nat × Nat)) (g : Gh) (H H' : Heap), merges ms H = some H' → HRel P E g H w → ∃ g', HRel P E g' H' w ∧ HLe g H g' H' ∧ ∀ T, g'.sn T = g.sn T
  | [], g, H, H', hm, h => by
    simp only [merges, Option.some.injEq] at hm
    subst hm
    exact ⟨g, h, HLe.refl _ _, fun _ => rfl⟩
  | (T, i, j) :: ms, g, H, H', hm, h => by
    simp only [merges] at hm
    split at hm
    · rename_i H1 h1
      have step : ∃ g1, HRel P E g1 H1 w ∧ HLe g H g1 H1 ∧ ∀ T, g1.sn T = g.sn T := by
        unfold mergeH at h1
        split at h1
        · rename_i e rows hT
          split at h1
          · rename_i r hr
            split at h1
            · rename_i T' n hc
              split at h1
              · rename_i e' rows' hT'
                split at h1
                · rename_i hh
                  simp only [Option.some.injEq] at h1
                  subst h1
                  obtain ⟨k1, k2⟩ := hrel_merge h hT hr hc hT' hh.1 hh.2
                  exact ⟨_, k1, k2, fun _ => rfl⟩
                · cases h1
              · cases h1
            · cases h1
          · cases h1
        · cases h1
      obtain ⟨g1, k1, k2, k3⟩ := step
      obtain ⟨g2, k4, k5, k6⟩ := hrel_merges ms g1 H1 H' hm k1
      exact ⟨g2, k4, k2.trans k5, fun T => (k6 T).trans (k3 T)⟩
    · cases hm

theorem rel_merges {s : St} {a : Act} {ms : List (Nat × Nat × Nat)} (h : Rel P E g s a w) (hm : merges ms s.H = some H') : ∃ g', Rel P E g' { s with H := H' } a w ∧ HLe g s.H g' H' := by
  obtain ⟨g', h1, h2, h3⟩ := hrel_merges ms g s.H H' hm h.heap
  exact ⟨g', rel_step (n' := s.nx) h h2 h1 (fun T hT => by rw [h3]; exact h.fresh T hT), h2⟩
end
end Go.Proofs.Ytmiojnibngncaaa

/- The value-level engine, fifteenth part, c: calls of functions that turn what they are handed. -/
namespace Go.Proofs.Ytmiojnibngncaaa
open Go Go.RowKit
set_option linter.unusedVariables false
set_option linter.unusedSimpArgs false

def HpE (l : List Ent) : Heap := fun T => (l[T]?).getD .dead

/-- The place of a token among those that are handed over. -/
def idx : List Nat → Nat → Option Nat
  | [], _ => none
  | X :: σ, T => if T = X then some 0 else (idx σ T).map (· + 1)

theorem idx_some : ∀ {σ : List Nat} {T k : Nat}, idx σ T = some k → σ[k]? = some T
  | [], T, k, h => by cases h
  | X :: σ, T, k, h => by
    simp only [idx] at h
    split at h
    · rename_i e
      injection h with h
      subst h
      subst e
      rfl
    · cases hi : idx σ T with
      | none => rw [hi] at h; cases h
      | some m =>
        rw [hi] at h
        simp only [Option.map_some, Option.some.injEq] at h
        subst h
        rw [List.getElem?_cons_succ]
        exact idx_some hi
theorem idx_get : ∀ {σ : List Nat} (hn : σ.Nodup) {T k : Nat}, σ[k]? = some T → idx σ T = some k
  | [], _, T, k, h => by simp at h
  | X :: σ, hn, T, 0, h => by
    simp only [List.getElem?_cons_zero, Option.some.injEq] at h
    subst h
    simp [idx]
  | X :: σ, hn, T, k + 1, h => by
    simp only [List.getElem?_cons_succ] at h
    rw [List.nodup_cons] at hn
    have hne : T ≠ X := fun hh => hn.1 (hh ▸ List.mem_of_getElem? h)
    simp only [idx, if_neg hne, idx_get hn.2 h, Option.map_some]
theorem idx_none : ∀ {σ : List Nat} {T : Nat}, idx σ T = none → T ∉ σ
  | [], T, h => by simp
  | X :: σ, T, h => by
    simp only [idx] at h
    split at h
    · cases h
    · rename_i e
      cases hi : idx σ T with
      | some m => rw [hi] at h; cases h
      | none =>
        have := idx_none hi
        simp [e, this]
theorem idx_mem {σ : List Nat} {T : Nat} (h : T ∈ σ) : ∃ k, idx σ T = some k := by
  cases hi : idx σ T with
  | some k => exact ⟨k, rfl⟩
  | none => exact absurd h (idx_none hi)
theorem idx_notMem {σ : List Nat} {T : Nat} (h : T ∉ σ) : idx σ T = none := by
  cases hi : idx σ T with
  | none => rfl
  | some k => exact absurd (List.mem_of_getElem? (idx_some hi)) h

def hid (σ : List Nat) : VV → Bool
  | .rf T _ => (idx σ T).isNone
  | _ => true
/-- A value as such a call is handed it. -/
def viewC (σ : List Nat) (H : Heap) (x : VV) : VV :=
  match x with
  | .rf T n => match idx σ T with
    | some k => .rf k n
    | none => frzC H (.rf T n)
  | .bp T j => match idx σ T with
    | some k => .bp k j
    | none => frzBox H T j
  | .nl e => .nl e
  | x => frzC H x
def viewA (σ : List Nat) (H : Heap) : VV → VV
  | .agg vs => .agg (vs.map (viewC σ H))
  | x => viewC σ H x
def capHid (σ : List Nat) (H : Heap) : VV → Prop
  | .bp T j => idx σ T = none ∧ (match H T with
    | .box cs => (cs.drop j).all (hid σ) = true
    | _ => True)
  | _ => True
def viewOkC (σ : List Nat) (H : Heap) (x : VV) : Prop :=
  match x with
  | .rf T n => match idx σ T with
    | some _ => True
    | none => frzOkC H (.rf T n)
  | .bp T j => match idx σ T with
    | some _ => True
    | none => frzOkC H (.bp T j) ∧ (match H T with
      | .box cs => (cs.drop j).all (hid σ) = true
      | _ => True)
  | .bs T j n e => idx σ T = none ∧ frzOkC H (.bs T j n e)
  | .clo _ caps => ∀ c ∈ caps, capsOk H c ∧ capHid σ H c
  | .np .. | .agg _ | .tup _ => False
  | _ => True
def viewOk (σ : List Nat) (H : Heap) : VV → Prop
  | .agg vs => ∀ x ∈ vs, viewOkC σ H x
  | x => viewOkC σ H x
def viewE (σ : List Nat) (H : Heap) : Ent → Ent
  | .box cs => .box (cs.map (viewC σ H))
  | x => x
def viewOkE (σ : List Nat) (H : Heap) : Ent → Prop
  | .dead => False
  | .root _ rows => PurRows rows
  | .box cs => ∀ x ∈ cs, viewOkC σ H x

def outE : VV → Bool
  | .int _ _ | .bool _ | .str _ | .rf _ _ | .err _ | .any | .nl _ => true
  | _ => false
/-- What comes of what was handed over. -/
def keptOk : Ent → Ent → Prop
  | _, .dead => True
  | .root e _, .root e' rows => e' = e ∧ PurRows rows
  | .box cs, .box cs' => cs'.length = cs.length ∧ cs'.all outE = true
  | _, _ => False
def newOk : Ent → Prop
  | .root _ rows => PurRows rows
  | _ => False

/-- What a function gives, and what becomes of what it is handed. -/
structure SatO (P : Program) (f : FuncId) (args : List VV) (I : List Ent) (v : VV) (O : List Ent) : Prop where
  fn : ∃ fn, P.funcs[f]? = some fn ∧ (fn.name == "runtime.NumGoroutine") = false ∧ fn.body.isNone = false
  out : outV v = true
  len : I.length ≤ O.length
  kept : ∀ (k : Nat) (x y : Ent), I[k]? = some x → O[k]? = some y → keptOk x y
  new : ∀ (k : Nat) (y : Ent), I.length ≤ k → O[k]? = some y → newOk y
  run : ∀ (E : Env) (g : Gh) (w : World) (vals : List Value), E.w0 = w → HRel P E g (HpE I) w → (∀ T, I.length ≤ T → g.sn T = false) → vals.length = args.length →
    (∀ (j : Nat) (x : VV) (u : Value), args[j]? = some x → vals[j]? = some u → ARel P E (HpE I) g x u) →
    Calls P f vals.toArray w fun e w' => ∃ val g', e = .returned val ∧ HRel P E g' (HpE O) w' ∧ (∀ T, O.length ≤ T → g'.sn T = false) ∧ HLe g (HpE I) g' (HpE O) ∧ VRel P E (HpE O) g' v val

/-- The cells that such a call may write. -/
def ownR (σ : List Nat) (H : Heap) (g : Gh) (b o : Nat) : Prop :=
  (∃ T ∈ σ, ∃ e rows p e' rows' n c, H T = .root e rows ∧ At p (.list e rows) = some (e', rows') ∧ g.hd T p = .slice (some ⟨b, 0, none⟩) n c) ∨
  ∃ T ∈ σ, ∃ cs j, H T = .box cs ∧ j < cs.length ∧ b = (g.bx T).1 ∧ o = (g.bx T).2 + j
def callEnv (σ : List Nat) (H : Heap) (g : Gh) (w : World) : Env := ⟨w, ownR σ H g, fun _ _ => True, fun _ _ _ _ _ _ => trivial⟩
def Gh.call (g : Gh) (σ : List Nat) : Gh :=
  { hd := fun k p => match σ[k]? with
      | some T => g.hd T p
      | none => undef
    bx := fun k => match σ[k]? with
      | some T => g.bx T
      | none => (0, 0)
    own := fun b => match g.own b with
      | some (T, p) => (idx σ T).map fun k => (k, p)
      | none => none
    ob := fun b o => match g.ob b o with
      | some (T, j) => (idx σ T).map fun k => (k, j)
      | none => none
    sn := fun k => decide (k < σ.length) }

section
variable {P : Program} {E : Env} {g g' : Gh} {H : Heap} {s : St} {a : Act} {w w' : World} {ty : Ty} {σ : List Nat}

theorem ownR_cases (h : HRel P E g H w) {b o : Nat} (ho : ownR σ H g b o) :
    (∃ T ∈ σ, ∃ p, g.own b = some (T, p) ∧ (E.w0.heap.size ≤ b ∨ ∀ o, E.own b o) ∧ ∃ cur e, w.heap[b]? = some (.cells cur e (0, 0))) ∨
    ∃ T ∈ σ, ∃ j, g.own b = none ∧ g.ob b o = some (T, j) ∧ (E.w0.heap.size ≤ b ∨ E.own b o) ∧ ∃ cur e, w.heap[b]? = some (.cells cur e (0, 0)) := by
  rcases ho with ⟨T, hT, e, rows, p, e', rows', n, c, h1, h2, h3⟩ | ⟨T, hT, cs, j, h1, h2, rfl, rfl⟩
  · rcases h.node T e rows h1 p e' rows' h2 with ⟨k1, _⟩ | ⟨b', cap, cur, k1, k2, k3, k4, _⟩
    · rw [h3] at k1; cases k1
    · rw [h3] at k1
      injection k1 with k1
      injection k1 with k1
      injection k1 with k1
      subst k1
      exact .inl ⟨T, hT, p, k2, k3, cur, _, k4⟩
  · obtain ⟨cur, e, k1, k2, k3⟩ := h.box T cs h1
    obtain ⟨k4, k5, _⟩ := k3 j cs[j] (List.getElem?_eq_getElem h2)
    exact .inr ⟨T, hT, j, k2, k4, k5, cur, e, k1⟩

theorem nown_rd (h : HRel P E g H w) {b o : Nat} {u : Value} (hr : E.rd b o u) : ¬ ownR σ H g b o := by
  intro ho
  obtain ⟨h1, h2, _⟩ := hr
  rcases ownR_cases h ho with ⟨T, _, p, _, k, _⟩ | ⟨T, _, j, _, _, k, _⟩
  · rcases k with k | k
    · omega
    · exact h2 (k o)
  · rcases k with k | k
    · omega
    · exact h2 k

theorem nown_rt (h : HRel P E g H w) {X : Nat} (hX : X ∉ σ) {p : Path} {b : Nat} (hb : g.own b = some (X, p)) (o : Nat) : ¬ ownR σ H g b o := by
  intro ho
  rcases ownR_cases h ho with ⟨T, hT, q, k, _⟩ | ⟨T, hT, j, k, _⟩
  · rw [hb] at k
    injection k with k
    injection k with k _
    exact hX (k ▸ hT)
  · rw [hb] at k; cases k

theorem nown_bx (h : HRel P E g H w) {X : Nat} (hX : X ∉ σ) {b o j : Nat} (h0 : g.own b = none) (hb : g.ob b o = some (X, j)) : ¬ ownR σ H g b o := by
  intro ho
  rcases ownR_cases h ho with ⟨T, hT, q, k, _⟩ | ⟨T, hT, j', _, k, _⟩
  · rw [h0] at k; cases k
  · rw [hb] at k
    injection k with k
    injection k with k _
    exact hX (k ▸ hT)

/-! ### What is handed over reads as it did -/
theorem rdO_frame (h : HRel P E g H w) {x : PT} {v : Value} (hr : Rd P E x v) : Rd P (callEnv σ H g w) x v := by
  cases x <;> try exact hr
  case list e rows =>
    obtain ⟨fh, h0, h1⟩ := hr
    refine ⟨fh, h0, fun p e' rows' hp => ?_⟩
    obtain ⟨A, cap, h2, h3, h4, h5⟩ := h1 p e' rows' hp
    refine ⟨A, cap, h2, h3, h4, ?_⟩
    rcases h5 with h5 | ⟨b, o, h5, h6⟩
    · exact .inl h5
    · refine .inr ⟨b, o, h5, fun i r hr => ?_⟩
      obtain ⟨h7, h8⟩ := h6 i r hr
      refine ⟨h7, fun j c hc => ?_⟩
      obtain ⟨u, h9, h10⟩ := h8 j c hc
      exact ⟨u, ⟨Nat.lt_of_lt_of_le h9.1 h.frm.size, nown_rd h h9, rd_cell h.frm h9⟩, h10⟩

theorem rdO_root (h : HRel P E g H w) {T : Nat} (hσ : T ∉ σ) {e : TypeId} {rows : List (List PT)} (hT : H T = .root e rows) (hp : PurRows rows) {n : Nat} (hn : n ≤ rows.length) : Rd P (callEnv σ H g w) (.list e (rows.take n)) (cutv n (g.hd T [])) := by
  obtain ⟨fh, h0, h1⟩ := rd_root h hT hp hn
  -- the same headers, read by this call: the blocks are T's
  have node : ∀ p e' rows', At p (.list e rows) = some (e', rows') → ∀ m, m ≤ rows'.length → RdNode P (callEnv σ H g w) e' (rows'.take m) (fun i j => g.hd T (p ++ [(i, j)])) (cutv m (g.hd T p)) := by
    intro p e' rows' hat m hm
    have hpur : PurRows rows' := pur_at p (.list e rows) (.list _ _ hp) e' rows' hat
    have hlen : (rows'.take m).length = m := by simp; omega
    rcases h.node T e rows hT p e' rows' hat with ⟨h1, h2⟩ | ⟨b, cap, cur, h1, h2, h3, h4, h5, h6, h7, h8⟩
    · subst h2
      simp at hm
      subst hm
      exact ⟨none, 0, by rw [h1]; rfl, by simp, by simp [maxLen], .inl (by simp)⟩
    · refine ⟨_, cap, by rw [h1, hlen]; rfl, by rw [hlen]; omega, h6, .inr ⟨b, 0, rfl, fun i r hr => ?_⟩⟩
      rw [List.getElem?_take] at hr
      split at hr
      · obtain ⟨h9, h10⟩ := h8 i r hr
        refine ⟨h9, fun j c hc => ?_⟩
        obtain ⟨u, h11, h12⟩ := h10 j c hc
        refine ⟨u, ⟨(Array.getElem?_eq_some_iff.1 h4).1, nown_rt h hσ h2 _, ?_⟩, fcell_of_ocell (hpur r (List.mem_of_getElem? hr) c (List.mem_of_getElem? hc)) h12⟩
        rw [Nat.zero_add]
        exact cell_of_heap h4 h11
      · cases hr
  refine ⟨fun p => if p = [] then cutv n (g.hd T []) else g.hd T p, by simp, fun p e' rows' hat => ?_⟩
  cases p with
  | nil =>
    simp only [At, Option.some.injEq, Prod.mk.injEq] at hat
    obtain ⟨rfl, rfl⟩ := hat
    have := node [] e rows rfl n hn
    simpa using this
  | cons x q =>
    have hat' := At_take hat
    have h1 := node _ e' rows' hat' rows'.length (Nat.le_refl _)
    rw [List.take_length] at h1
    have h2 : cutv rows'.length (g.hd T (x :: q)) = g.hd T (x :: q) := by
      rcases h.node T e rows hT _ e' rows' hat' with ⟨h1, h2⟩ | ⟨b, cap, cur, h1, _⟩
      · rw [h1, h2]; rfl
      · rw [h1]; rfl
    rw [h2] at h1
    simpa using h1

theorem ptO_rel (h : HRel P E g H w) {x : VV} {u : Value} (hx : CRel P E H g x u) (hok : ptOk H x) (hh : hid σ x = true) : Rd P (callEnv σ H g w) (x.pt H) u := by
  cases x with
  | nl e => have hx : u = .slice none 0 0 := hx; subst hx; exact rd_nil
  | fr e rows => exact rdO_frame (x := .list e rows) h hx
  | rf T n =>
    simp only [ptOk] at hok
    split at hok
    · rename_i e rows hT
      obtain ⟨h1, h2⟩ := hok
      obtain ⟨_, _, hv⟩ := hx
      have hv := hv (by simp [hT, Ent.isRoot])
      simp only [VV.pt, hT]
      rw [hv]
      refine rdO_root h (idx_none ?_) hT h2 h1
      simpa [hid] using hh
    · exact hok.elim
  | int => exact hx
  | bool => exact hx
  | str => exact hx
  | _ => exact hok.elim

theorem fpO_frame (h : HRel P E g H w) {row : List PT} {v : Value} (hx : CapRel P E H g (.fp row) v) {H' : Heap} {g' : Gh} : CapRel P (callEnv σ H g w) H' g' (.fp row) v := by
  obtain ⟨b, o, h1, h2⟩ := hx
  refine ⟨b, o, h1, fun j c hc => ?_⟩
  obtain ⟨u, h3, h4⟩ := h2 j c hc
  exact ⟨u, ⟨Nat.lt_of_lt_of_le h3.1 h.frm.size, nown_rd h h3, rd_cell h.frm h3⟩, rdO_frame h h4⟩

theorem boxO_frame (h : HRel P E g H w) {T j : Nat} {v : Value} (hx : CapRel P E H g (.bp T j) v) (hok : capsOk H (.bp T j)) (hhd : capHid σ H (.bp T j)) {H' : Heap} {g' : Gh} : CapRel P (callEnv σ H g w) H' g' (frzBox H T j) v := by
  simp only [capsOk] at hok
  split at hok
  · rename_i cs hT
    obtain ⟨hn, hall⟩ := hhd
    rw [hT] at hall
    simp only at hall
    obtain ⟨_, _, hv⟩ := hx
    have hv := hv (by simp [hT, Ent.live])
    obtain ⟨cur, e, hw, ho, hc⟩ := h.box T cs hT
    simp only [frzBox, hT]
    refine ⟨_, _, hv, fun k c hk => ?_⟩
    simp only [List.getElem?_map, List.getElem?_drop, Option.map_eq_some_iff] at hk
    obtain ⟨x, hx, rfl⟩ := hk
    obtain ⟨hob, _, u, hu, hr⟩ := hc (j + k) x hx
    have hmem : x ∈ cs.drop j := List.mem_of_getElem? (i := k) (by rw [List.getElem?_drop]; exact hx)
    refine ⟨u, ⟨(Array.getElem?_eq_some_iff.1 hw).1, ?_, ?_⟩, ptO_rel h hr (hok x hmem) (List.all_eq_true.1 hall x hmem)⟩
    · rw [Nat.add_assoc]; exact nown_bx h (idx_none hn) ho hob
    · have := cell_of_heap hw hu
      rw [Nat.add_assoc]
      exact this
  · exact hok.elim

theorem frzO_rel (h : HRel P E g H w) {x : VV} {u : Value} (hx : CRel P E H g x u) {H' : Heap} {g' : Gh} (hr : ∀ T n, x ≠ .rf T n) (hb : ∀ T j, x ≠ .bp T j) (hnl : ∀ e, x ≠ .nl e) (hok : viewOkC σ H x) : CRel P (callEnv σ H g w) H' g' (frzC H x) u := by
  cases x with
  | rf T n => exact absurd rfl (hr T n)
  | bp T j => exact absurd rfl (hb T j)
  | nl e => exact absurd rfl (hnl e)
  | fr e rows => exact rdO_frame (x := .list e rows) h hx
  | clo f caps =>
    obtain ⟨cs, h1, h2, h3⟩ := hx
    refine ⟨cs, h1, by simpa using h2, fun j c u hc hu => ?_⟩
    simp only [List.getElem?_map, Option.map_eq_some_iff] at hc
    obtain ⟨c0, hc0, rfl⟩ := hc
    have hr := h3 j c0 u hc0 hu
    obtain ⟨ho, hh⟩ := hok c0 (List.mem_of_getElem? hc0)
    cases c0 <;> try exact ho.elim
    case bp T j => exact boxO_frame h hr ho hh
    case fp row => exact fpO_frame h hr
  | fp row => exact fpO_frame h (g := g) (H := H) (H' := H') (g' := g') hx
  | bs T j n e =>
    obtain ⟨hn, hok⟩ := hok
    refine bs_frame h hx hok fun cs hT k u hk hu => ?_
    obtain ⟨x, hx⟩ : ∃ x, cs[k]? = some x := ⟨_, List.getElem?_eq_getElem hk⟩
    obtain ⟨cur, e0, hw, ho, hc⟩ := h.box T cs hT
    exact ⟨(Array.getElem?_eq_some_iff.1 hw).1, nown_bx h (idx_none hn) ho (hc k x hx).1, hu⟩
  | np => exact hok.elim
  | agg => exact hok.elim
  | tup => exact hok.elim
  | _ => exact hx

theorem viewE_root {x : Ent} : (viewE σ H x).isRoot = x.isRoot := by cases x <;> rfl
theorem viewE_live {x : Ent} : (viewE σ H x).live = x.live := by cases x <;> rfl
theorem hpI {k T : Nat} (hk : σ[k]? = some T) : HpE (σ.map fun T => viewE σ H (H T)) k = viewE σ H (H T) := by simp [HpE, hk]
theorem hpI_none {k : Nat} (hk : σ[k]? = none) : HpE (σ.map fun T => viewE σ H (H T)) k = .dead := by simp [HpE, hk]

theorem viewC_rel (h : HRel P E g H w) {x : VV} {u : Value} (hx : CRel P E H g x u) (hok : viewOkC σ H x) : CRel P (callEnv σ H g w) (HpE (σ.map fun T => viewE σ H (H T))) (g.call σ) (viewC σ H x) u := by
  by_cases hr : ∃ T n, x = .rf T n
  · obtain ⟨T, n, rfl⟩ := hr
    simp only [viewOkC] at hok
    simp only [viewC]
    cases hi : idx σ T with
    | some k =>
      have hk := idx_some hi
      obtain ⟨h1, h2, h3⟩ := hx
      refine ⟨by simp only [Gh.call, decide_eq_true_eq]; exact (List.getElem?_eq_some_iff.1 hk).1, h2, fun hroot => ?_⟩
      rw [hpI hk, viewE_root] at hroot
      simp only [Gh.call, hk]
      exact h3 hroot
    | none =>
      rw [hi] at hok
      simp only [frzOkC] at hok
      simp only [frzC]
      split at hok
      · rename_i e rows hT
        obtain ⟨h1, h2⟩ := hok
        obtain ⟨_, _, hv⟩ := hx
        have hv := hv (by simp [hT, Ent.isRoot])
        rw [hv]
        exact rdO_root h (idx_none hi) hT h2 h1
      · exact hok.elim
  · by_cases hb : ∃ T j, x = .bp T j
    · obtain ⟨T, j, rfl⟩ := hb
      simp only [viewOkC] at hok
      simp only [viewC]
      cases hi : idx σ T with
      | some k =>
        have hk := idx_some hi
        obtain ⟨h1, h2, h3⟩ := hx
        refine ⟨by simp only [Gh.call, decide_eq_true_eq]; exact (List.getElem?_eq_some_iff.1 hk).1, h2, fun hlive => ?_⟩
        rw [hpI hk, viewE_live] at hlive
        simp only [Gh.call, hk]
        exact h3 hlive
      | none =>
        rw [hi] at hok
        have := boxO_frame (σ := σ) (H' := HpE (σ.map fun T => viewE σ H (H T))) (g' := g.call σ) h (T := T) (j := j) hx hok.1 ⟨hi, hok.2⟩
        simp only [frzBox] at this ⊢
        split at this
        · exact this
        · exact this.elim
    · by_cases hn : ∃ e, x = .nl e
      · obtain ⟨e, rfl⟩ := hn
        exact hx
      · have h1 : viewC σ H x = frzC H x := by
          cases x <;> first | rfl | exact absurd ⟨_, _, rfl⟩ hr | exact absurd ⟨_, _, rfl⟩ hb | exact absurd ⟨_, rfl⟩ hn
        rw [h1]
        exact frzO_rel h hx (fun T n hh => hr ⟨T, n, hh⟩) (fun T n hh => hb ⟨T, n, hh⟩) (fun e hh => hn ⟨e, hh⟩) hok

theorem viewA_rel (h : HRel P E g H w) {x : VV} {u : Value} (hx : VRel P E H g x u) (hok : viewOk σ H x) : ARel P (callEnv σ H g w) (HpE (σ.map fun T => viewE σ H (H T))) (g.call σ) (viewA σ H x) u := by
  by_cases ha : ∃ vs, x = .agg vs
  · obtain ⟨vs, rfl⟩ := ha
    obtain ⟨cs, h1, h2, h3⟩ := hx
    refine ⟨cs, h1, by simpa using h2, fun j c u hc hu => ?_⟩
    simp only [List.getElem?_map, Option.map_eq_some_iff] at hc
    obtain ⟨c0, hc0, rfl⟩ := hc
    exact viewC_rel h (h3 j c0 u hc0 hu) (hok c0 (List.mem_of_getElem? hc0))
  · have hne : ∀ vs, x ≠ .agg vs := fun vs hh => ha ⟨vs, hh⟩
    have hnt : ∀ vs, x ≠ .tup vs := fun vs hh => by subst hh; exact hok
    rw [vrel_eq hnt, arel_eq hne] at hx
    have h1 : viewA σ H x = viewC σ H x := by cases x <;> first | rfl | exact absurd rfl (hne _)
    have h2 : viewOkC σ H x := by cases x <;> first | exact hok | exact absurd rfl (hne _)
    rw [h1]
    exact arel_of_crel (viewC_rel h hx h2)

/-- What such a call begins with. -/
theorem hrel_call (h : HRel P E g H w) (hn : σ.Nodup) (hok : ∀ T ∈ σ, viewOkE σ H (H T)) : HRel P (callEnv σ H g w) (g.call σ) (HpE (σ.map fun T => viewE σ H (H T))) w := by
  refine ⟨Frm.refl _, fun k e rows hk p e2 rows2 hp => ?_, fun k cs hk => ?_, fun k hk => ?_⟩
  · cases hT : σ[k]? with
    | none => rw [hpI_none hT] at hk; cases hk
    | some T =>
      rw [hpI hT] at hk
      have hroot : H T = .root e rows := by
        cases hx : H T with
        | root e' rows' => rw [hx] at hk; exact hk
        | box cs => rw [hx] at hk; cases hk
        | dead => rw [hx] at hk; cases hk
      have hmem := List.mem_of_getElem? hT
      have hidx := idx_get hn hT
      have hpr : PurRows rows := by have := hok T hmem; rw [hroot] at this; exact this
      have hpr2 : PurRows rows2 := pur_at p (.list e rows) (.list _ _ hpr) e2 rows2 hp
      rcases h.node T e rows hroot p e2 rows2 hp with ⟨k1, k2⟩ | ⟨b, cap, cur, k1, k2, k3, k4, k5, k6, k7, k8⟩
      · exact .inl ⟨by simp only [Gh.call, hT]; exact k1, k2⟩
      · refine .inr ⟨b, cap, cur, by simp only [Gh.call, hT]; exact k1, by simp only [Gh.call, k2, hidx, Option.map_some], .inr fun o => .inl ⟨T, hmem, e, rows, p, e2, rows2, _, _, hroot, hp, k1⟩, k4, k5, k6, k7, fun i r hr => ?_⟩
        obtain ⟨m1, m2⟩ := k8 i r hr
        refine ⟨m1, fun j c hc => ?_⟩
        obtain ⟨u, m3, m4⟩ := m2 j c hc
        refine ⟨u, m3, ?_⟩
        simp only [Gh.call, hT]
        have := hpr2 r (List.mem_of_getElem? hr) c (List.mem_of_getElem? hc)
        cases this <;> exact m4
  · cases hT : σ[k]? with
    | none => rw [hpI_none hT] at hk; cases hk
    | some T =>
      rw [hpI hT] at hk
      obtain ⟨cs0, hbox, rfl⟩ : ∃ cs0, H T = .box cs0 ∧ cs = cs0.map (viewC σ H) := by
        cases hx : H T with
        | root e' rows' => rw [hx] at hk; cases hk
        | box cs0 => rw [hx] at hk; injection hk with hk; exact ⟨cs0, rfl, hk.symm⟩
        | dead => rw [hx] at hk; cases hk
      have hmem := List.mem_of_getElem? hT
      have hidx := idx_get hn hT
      have hokc := hok T hmem
      rw [hbox] at hokc
      obtain ⟨cur, e, k1, k2, k3⟩ := h.box T cs0 hbox
      have hbx : (g.call σ).bx k = g.bx T := by simp only [Gh.call, hT]
      refine ⟨cur, e, by rw [hbx]; exact k1, by rw [hbx]; simp only [Gh.call, k2], fun j c hc => ?_⟩
      simp only [List.getElem?_map, Option.map_eq_some_iff] at hc
      obtain ⟨c0, hc0, rfl⟩ := hc
      obtain ⟨k4, k5, u, k6, k7⟩ := k3 j c0 hc0
      rw [hbx]
      refine ⟨by simp only [Gh.call, k4, hidx, Option.map_some], .inr (.inr ⟨T, hmem, cs0, j, hbox, (List.getElem?_eq_some_iff.1 hc0).1, rfl, rfl⟩), u, k6, viewC_rel h k7 (hokc c0 (List.mem_of_getElem? hc0))⟩
  · cases hT : σ[k]? with
    | none => rw [hpI_none hT] at hk; cases hk
    | some T => simp only [Gh.call, decide_eq_true_eq]; exact (List.getElem?_eq_some_iff.1 hT).1
end
end Go.Proofs.Ytmiojnibngncaaa

/- The value-level engine, fifteenth part, d: what comes back from a call that turns what it is handed. -/
namespace Go.Proofs.Ytmiojnibngncaaa
open Go Go.RowKit
set_option linter.unusedVariables false
set_option linter.unusedSimpArgs false

def tkB (σ : List Nat) (nx k : Nat) : Nat := match σ[k]? with
  | some T => T
  | none => nx + (k - σ.length)
def bkC (σ : List Nat) (nx : Nat) : VV → VV
  | .rf k n => .rf (tkB σ nx k) n
  | x => x
def bkA (σ : List Nat) (nx : Nat) : VV → VV
  | .agg vs => .agg (vs.map (bkC σ nx))
  | x => bkC σ nx x
def bkV (σ : List Nat) (nx : Nat) : VV → VV
  | .tup vs => .tup (vs.map (bkA σ nx))
  | x => bkA σ nx x
def bkE (σ : List Nat) (nx : Nat) : Ent → Ent
  | .box cs => .box (cs.map (bkC σ nx))
  | x => x
def putO (bk : Ent → Ent) : List Nat → Nat → List Ent → Heap → Heap
  | T :: σ, n, o :: O, H => updH T (bk o) (putO bk σ n O H)
  | [], n, o :: O, H => updH n (bk o) (putO bk [] (n + 1) O H)
  | _, _, [], H => H

theorem putO_nil (bk : Ent → Ent) : ∀ (O : List Ent) (n : Nat) (H : Heap) (X : Nat), putO bk [] n O H X = if n ≤ X ∧ X < n + O.length then bk ((O[X - n]?).getD .dead) else H X
  | [], n, H, X => by simp [putO]; omega
  | o :: O, n, H, X => by
    simp only [putO]
    by_cases c : X = n
    · subst c; simp [updH_same]
    · rw [updH_ne _ _ c, putO_nil bk O (n + 1) H X]
      by_cases d : n ≤ X ∧ X < n + (o :: O).length
      · simp only [List.length_cons] at d
        rw [if_pos (by omega), if_pos (by simp only [List.length_cons]; omega)]
        obtain ⟨k, rfl⟩ : ∃ k, X = n + 1 + k := ⟨X - (n + 1), by omega⟩
        rw [show n + 1 + k - (n + 1) = k by omega, show n + 1 + k - n = k + 1 by omega]
        simp
      · simp only [List.length_cons] at d
        rw [if_neg (by omega), if_neg (by simp only [List.length_cons]; omega)]

theorem putO_at (bk : Ent → Ent) : ∀ (σ : List Nat) (hn : σ.Nodup) (O : List Ent) (hl : σ.length ≤ O.length) (n : Nat) (H : Heap) (X : Nat),
    putO bk σ n O H X = match idx σ X with
      | some k => bk ((O[k]?).getD .dead)
      | none => if n ≤ X ∧ X < n + (O.length - σ.length) then bk ((O[σ.length + (X - n)]?).getD .dead) else H X
  | [], _, O, _, n, H, X => by rw [putO_nil]; simp [idx]
  | T :: σ, _, [], hl, n, H, X => by simp at hl
  | T :: σ, hn, o :: O, hl, n, H, X => by
    simp only [putO, idx]
    rw [List.nodup_cons] at hn
    by_cases c : X = T
    · subst c; simp [updH_same]
    · rw [updH_ne _ _ c, if_neg c, putO_at bk σ hn.2 O (by simpa using hl) n H X]
      cases hi : idx σ X with
      | some k => simp
      | none =>
        simp only [Option.map_none, List.length_cons, Nat.add_sub_add_right]
        rw [show σ.length + 1 + (X - n) = σ.length + (X - n) + 1 by omega]
        simp

def Gh.back (g g' : Gh) (σ : List Nat) (nx m sz : Nat) : Gh :=
  { hd := fun X p => match idx σ X with
      | some k => g'.hd k p
      | none => if nx ≤ X ∧ X < nx + m then g'.hd (σ.length + (X - nx)) p else g.hd X p
    bx := fun X => match idx σ X with
      | some k => g'.bx k
      | none => g.bx X
    own := fun b => if sz ≤ b then (g'.own b).map fun x => (tkB σ nx x.1, x.2) else match g.own b with
      | some (T, p) => (match idx σ T with
        | some _ => (g'.own b).map fun x => (tkB σ nx x.1, x.2)
        | none => some (T, p))
      | none => none
    ob := fun b o => if sz ≤ b then (g'.ob b o).map fun x => (tkB σ nx x.1, x.2) else match g.ob b o with
      | some (T, j) => (match idx σ T with
        | some _ => (g'.ob b o).map fun x => (tkB σ nx x.1, x.2)
        | none => some (T, j))
      | none => none
    sn := fun X => match idx σ X with
      | some _ => true
      | none => if nx ≤ X ∧ X < nx + m then g'.sn (σ.length + (X - nx)) else g.sn X }

section
variable {P : Program} {E : Env} {g g' : Gh} {H : Heap} {s : St} {a : Act} {w w' : World} {ty : Ty} {σ : List Nat} {O : List Ent} {nx : Nat}

theorem box_bound (H : Heap) (g : Gh) : ∀ σ : List Nat, ∃ N, ∀ T ∈ σ, ∀ cs, H T = .box cs → (g.bx T).2 + cs.length ≤ N
  | [] => ⟨0, fun T hT => by simp at hT⟩
  | X :: σ => by
    obtain ⟨N, hN⟩ := box_bound H g σ
    cases hx : H X with
    | box cs0 =>
      refine ⟨max N ((g.bx X).2 + cs0.length), fun T hT cs hc => ?_⟩
      rcases List.mem_cons.1 hT with rfl | hT
      · rw [hx] at hc; injection hc with hc; subst hc; exact Nat.le_max_right _ _
      · exact Nat.le_trans (hN T hT cs hc) (Nat.le_max_left _ _)
    | dead =>
      refine ⟨N, fun T hT cs hc => ?_⟩
      rcases List.mem_cons.1 hT with rfl | hT
      · rw [hx] at hc; cases hc
      · exact hN T hT cs hc
    | root e rows =>
      refine ⟨N, fun T hT cs hc => ?_⟩
      rcases List.mem_cons.1 hT with rfl | hT
      · rw [hx] at hc; cases hc
      · exact hN T hT cs hc

/-- A block that is owned whole lies under a slice that was handed over. -/
theorem own_all (h : HRel P E g H w) {b : Nat} (ho : ∀ o, ownR σ H g b o) : ∃ T ∈ σ, ∃ p, g.own b = some (T, p) ∧ (E.w0.heap.size ≤ b ∨ ∀ o, E.own b o) := by
  obtain ⟨N, hN⟩ := box_bound H g σ
  have h1 := ho N
  rcases h1 with h1 | ⟨T, hT, cs, j, k1, k2, k3, k4⟩
  · rcases ownR_cases h (Or.inl h1 : ownR σ H g b N) with ⟨T, hT, p, k1, k2, _⟩ | ⟨T, hT, j, k1, _⟩
    · exact ⟨T, hT, p, k1, k2⟩
    · obtain ⟨T, hT, e, rows, p, e', rows', n, c, m1, m2, m3⟩ := h1
      have := (node_lt (h.node T e rows m1 p e' rows' m2) m3).2
      rw [this] at k1; cases k1
  · have := hN T hT cs k1
    omega

theorem same_block (h' : Frm (callEnv σ H g w) w') {b : Nat} (hb : b < w.heap.size) (hno : ∀ o, ¬ ownR σ H g b o) : w'.heap[b]? = w.heap[b]? := by
  cases hx : w.heap[b]? with
  | none => rw [Array.getElem?_eq_none_iff] at hx; omega
  | some x =>
    by_cases hc : ∃ c e fz, x = Obj.cells c e fz
    · obtain ⟨c, e, fz, rfl⟩ := hc
      obtain ⟨c', h1, h2, h3⟩ := h'.cells b c e fz hx
      have : c' = c := by
        apply Array.ext_getElem?
        intro i
        exact h3 i (hno i)
      rw [h1, this]
    · exact h'.other b x hx (fun c e fz hh => hc ⟨c, e, fz, hh⟩)

theorem bkE_root {x : Ent} {e : TypeId} {rows : List (List PT)} (h : bkE σ nx x = .root e rows) : x = .root e rows := by
  cases x <;> first | exact h | (simp [bkE] at h; done)
theorem bkE_box {x : Ent} {cs : List VV} (h : bkE σ nx x = .box cs) : ∃ cs0, x = .box cs0 ∧ cs = cs0.map (bkC σ nx) := by
  cases x with
  | box cs0 => simp only [bkE, Ent.box.injEq] at h; exact ⟨cs0, rfl, h.symm⟩
  | dead => cases h
  | root => cases h
theorem bkE_live {x : Ent} : (bkE σ nx x).live = x.live := by cases x <;> rfl
theorem bkE_isRoot {x : Ent} : (bkE σ nx x).isRoot = x.isRoot := by cases x <;> rfl

theorem hrel_back (h : HRel P E g H w) (hn : σ.Nodup) (hok : ∀ T ∈ σ, viewOkE σ H (H T)) (hlen : σ.length ≤ O.length)
    (hkept : ∀ (k : Nat) (x y : Ent), (σ.map fun T => viewE σ H (H T))[k]? = some x → O[k]? = some y → keptOk x y) (hnew : ∀ (k : Nat) (y : Ent), σ.length ≤ k → O[k]? = some y → newOk y)
    (h' : HRel P (callEnv σ H g w) g' (HpE O) w') (hk : ∀ T, O.length ≤ T → g'.sn T = false) (hle' : HLe (g.call σ) (HpE (σ.map fun T => viewE σ H (H T))) g' (HpE O))
    (hf : ∀ T, nx ≤ T → T < nx + (O.length - σ.length) → g.sn T = false) :
    HRel P E (g.back g' σ nx (O.length - σ.length) w.heap.size) (putO (bkE σ nx) σ nx O H) w' ∧ HLe g H (g.back g' σ nx (O.length - σ.length) w.heap.size) (putO (bkE σ nx) σ nx O H) ∧
      (∀ c u, outE c = true → CRel P (callEnv σ H g w) (HpE O) g' c u → CRel P E (putO (bkE σ nx) σ nx O H) (g.back g' σ nx (O.length - σ.length) w.heap.size) (bkC σ nx c) u) := by
  have hlive : ∀ T ∈ σ, (H T).live = true := fun T hT => by
    have := hok T hT
    cases hx : H T with
    | dead => rw [hx] at this; exact this.elim
    | _ => rfl
  have hsn : ∀ T ∈ σ, g.sn T = true := fun T hT => h.seen T (hlive T hT)
  have hat := putO_at (bkE σ nx) σ hn O hlen nx H
  generalize hH2 : putO (bkE σ nx) σ nx O H = H2 at *
  generalize hg2 : g.back g' σ nx (O.length - σ.length) w.heap.size = g2
  -- a token of the call's, under its new name
  have hin : ∀ k, k < σ.length → ∃ T, σ[k]? = some T ∧ idx σ T = some k ∧ T ∈ σ ∧ tkB σ nx k = T := fun k hk' => by
    have h1 : σ[k]? = some σ[k] := List.getElem?_eq_getElem hk'
    exact ⟨σ[k], h1, idx_get hn h1, List.getElem_mem hk', by simp only [tkB, h1]⟩
  have hnewT : ∀ k, σ.length ≤ k → k < O.length → tkB σ nx k = nx + (k - σ.length) ∧ idx σ (nx + (k - σ.length)) = none := fun k h1 h2 => by
    have h3 : σ[k]? = none := List.getElem?_eq_none h1
    refine ⟨by simp only [tkB, h3], idx_notMem fun hm => ?_⟩
    have := hsn _ hm
    rw [hf _ (by omega) (by omega)] at this
    cases this
  have key : ∀ k, k < O.length → ∃ y, O[k]? = some y ∧ H2 (tkB σ nx k) = bkE σ nx y ∧ HpE O k = y ∧ (∀ p, g2.hd (tkB σ nx k) p = g'.hd k p) ∧ (g'.sn k = true → g2.sn (tkB σ nx k) = true) := fun k hk' => by
    have h1 : O[k]? = some O[k] := List.getElem?_eq_getElem hk'
    rcases Nat.lt_or_ge k σ.length with c | c
    · obtain ⟨T, k1, k2, k3, k4⟩ := hin k c
      refine ⟨O[k], h1, by rw [k4, hat T, k2]; simp [h1], by simp [HpE, h1], fun p => by rw [k4, ← hg2]; simp only [Gh.back, k2], fun _ => by rw [k4, ← hg2]; simp only [Gh.back, k2]⟩
    · obtain ⟨k1, k2⟩ := hnewT k c hk'
      have hr : nx ≤ nx + (k - σ.length) ∧ nx + (k - σ.length) < nx + (O.length - σ.length) := ⟨by omega, by omega⟩
      have e1 : σ.length + (nx + (k - σ.length) - nx) = k := by omega
      refine ⟨O[k], h1, by rw [k1, hat, k2]; simp only [if_pos hr, e1, h1, Option.getD_some], by simp [HpE, h1], fun p => by rw [k1, ← hg2]; simp only [Gh.back, k2, if_pos hr, e1], fun hs => by rw [k1, ← hg2]; simp only [Gh.back, k2, if_pos hr, e1]; exact hs⟩
  -- where a token comes from
  have split : ∀ X, (∃ k, k < O.length ∧ X = tkB σ nx k ∧ (X ∈ σ → k < σ.length) ∧ (X ∉ σ → σ.length ≤ k)) ∨ (X ∉ σ ∧ idx σ X = none ∧ ¬ (nx ≤ X ∧ X < nx + (O.length - σ.length)) ∧ H2 X = H X ∧ (∀ p, g2.hd X p = g.hd X p) ∧ g2.bx X = g.bx X ∧ g2.sn X = g.sn X) := fun X => by
    cases hi : idx σ X with
    | some k =>
      have h1 := idx_some hi
      have h2 : k < σ.length := (List.getElem?_eq_some_iff.1 h1).1
      exact .inl ⟨k, by omega, by simp only [tkB, h1], fun _ => h2, fun hm => absurd (List.mem_of_getElem? h1) hm⟩
    | none =>
      by_cases c : nx ≤ X ∧ X < nx + (O.length - σ.length)
      · obtain ⟨k1, _⟩ := hnewT (σ.length + (X - nx)) (by omega) (by omega)
        exact .inl ⟨σ.length + (X - nx), by omega, by rw [k1]; omega, fun hm => absurd hm (idx_none hi), fun _ => by omega⟩
      · refine .inr ⟨idx_none hi, rfl, c, by rw [hat X, hi]; simp only [if_neg c], fun p => by rw [← hg2]; simp only [Gh.back, hi, if_neg c], by rw [← hg2]; simp only [Gh.back, hi], by rw [← hg2]; simp only [Gh.back, hi, if_neg c]⟩
  have hcs : ∀ k, k < σ.length → (g.call σ).sn k = true := fun k hk' => by simp [Gh.call, hk']
  have hle : HLe g H g2 H2 := by
    have old : ∀ X, g.sn X = true → (∃ k, k < σ.length ∧ σ[k]? = some X ∧ X = tkB σ nx k) ∨ (H2 X = H X ∧ (∀ p, g2.hd X p = g.hd X p) ∧ g2.bx X = g.bx X ∧ g2.sn X = g.sn X) := fun X hX => by
      rcases split X with ⟨k, h1, h2, h3, h4⟩ | ⟨_, _, _, h4, h5, h6, h7⟩
      · by_cases hm : X ∈ σ
        · have h5 := h3 hm
          obtain ⟨T, k1, k2, k3, k4⟩ := hin k h5
          exact .inl ⟨k, h5, by rw [h2, k4]; exact k1, h2⟩
        · have hge := h4 hm
          obtain ⟨k1, k2⟩ := hnewT k hge h1
          have hz := hf (nx + (k - σ.length)) (by omega) (by omega)
          rw [h2, k1, hz] at hX
          cases hX
      · exact .inr ⟨h4, h5, h6, h7⟩
    have hI : ∀ k X, σ[k]? = some X → HpE (σ.map fun T => viewE σ H (H T)) k = viewE σ H (H X) := fun k X hX => hpI hX
    refine ⟨fun X hX => ?_, fun X e rows hX hr => ?_, fun X hX hr => ?_, fun X hX hr => ?_, fun X hX hr => ?_⟩
    · rcases old X hX with ⟨k, h1, h2, h3⟩ | ⟨_, _, _, h4⟩
      · obtain ⟨y, _, _, _, _, h5⟩ := key k (by omega)
        rw [h3]
        exact h5 (hle'.sn k (hcs k h1))
      · rw [h4]; exact hX
    · rcases old X hX with ⟨k, h1, h2, h3⟩ | ⟨h4, _⟩
      · obtain ⟨y, _, h5, h6, _⟩ := key k (by omega)
        rw [h3, h5] at hr
        have hy := bkE_root hr
        obtain ⟨rows1, h7⟩ := hle'.root k e rows (hcs k h1) (by rw [h6]; exact hy)
        rw [hI k X h2] at h7
        cases hx : H X with
        | root e1 r1 => rw [hx] at h7; simp only [viewE, Ent.root.injEq] at h7; rw [h7.1]; exact ⟨r1, rfl⟩
        | box cs => rw [hx] at h7; cases h7
        | dead => rw [hx] at h7; cases h7
      · rw [h4] at hr; exact ⟨rows, hr⟩
    · rcases old X hX with ⟨k, h1, h2, h3⟩ | ⟨h4, _⟩
      · exact hlive X (List.mem_of_getElem? h2)
      · rwa [h4] at hr
    · rcases old X hX with ⟨k, h1, h2, h3⟩ | ⟨_, h4, _⟩
      · obtain ⟨y, _, h5, h6, h7, _⟩ := key k (by omega)
        rw [h3, h5, bkE_isRoot] at hr
        have h8 := hle'.hd k (hcs k h1) (by rw [h6]; exact hr)
        have h9 := h7 []
        rw [← h3] at h9
        rw [h9, h8]
        simp only [Gh.call, h2]
      · exact h4 []
    · rcases old X hX with ⟨k, h1, h2, h3⟩ | ⟨_, _, h4, _⟩
      · obtain ⟨y, _, h5, h6, h7, _⟩ := key k (by omega)
        rw [h3, h5, bkE_live] at hr
        have h8 := hle'.bx k (hcs k h1) (by rw [h6]; exact hr)
        have h9 : g2.bx X = g'.bx k := by rw [← hg2]; simp only [Gh.back, idx_get hn h2]
        rw [h9, h8]
        simp only [Gh.call, h2]
      · exact h4
  have hcr : ∀ c u, outE c = true → CRel P (callEnv σ H g w) (HpE O) g' c u → CRel P E H2 g2 (bkC σ nx c) u := by
    intro c u ho hc
    cases c <;> first | exact hc | (simp [outE] at ho; done) | skip
    case rf k n =>
      obtain ⟨h1, h2, h3⟩ := hc
      have hlt : k < O.length := by
        rcases Nat.lt_or_ge k O.length with c | c
        · exact c
        · rw [hk k c] at h1; cases h1
      obtain ⟨y, k1, k2, k3, k4, k5⟩ := key k hlt
      refine ⟨k5 h1, h2, fun hr => ?_⟩
      rw [k2, bkE_isRoot] at hr
      rw [k4]
      exact h3 (by rw [k3]; exact hr)
  have hfr : Frm E w' := by
    refine h.frm.step h'.frm.os h'.frm.tape h'.frm.output h'.frm.size fun b hb => ?_
    by_cases ho : ∃ o, ownR σ H g b o
    · obtain ⟨o, ho⟩ := ho
      have hcell : ∃ cur e, w.heap[b]? = some (.cells cur e (0, 0)) := by
        rcases ownR_cases h ho with ⟨_, _, _, _, _, k⟩ | ⟨_, _, _, _, _, _, k⟩ <;> exact k
      obtain ⟨cur, e, hw⟩ := hcell
      obtain ⟨c', h1, h2, h3⟩ := h'.frm.cells b cur e (0, 0) hw
      refine .inr ⟨cur, e, c', hw, h1, h2, fun o' ho' => h3 o' fun hh => ?_⟩
      rcases ownR_cases h hh with ⟨_, _, _, _, k, _⟩ | ⟨_, _, _, _, _, k, _⟩
      · rcases k with k | k
        · omega
        · exact ho' (k o')
      · rcases k with k | k
        · omega
        · exact ho' k
    · exact .inl (same_block h'.frm (Nat.lt_of_lt_of_le hb h.frm.size) fun o hh => ho ⟨o, hh⟩)
  refine ⟨⟨hfr, fun X e rows hX p e2 rows2 hp => ?_, fun X cs hX => ?_, fun X hX => ?_⟩, hle, hcr⟩
  · rcases split X with ⟨k, h1, h2, h3, h4⟩ | ⟨hm, hi, hnr, h4, h5, h6, h7⟩
    · obtain ⟨y, k1, k2, k3, k4, k5⟩ := key k h1
      rw [h2, k2] at hX
      have hy := bkE_root hX
      subst hy
      have hpr : PurRows rows := by
        rcases Nat.lt_or_ge k σ.length with c | c
        · have hI : (σ.map fun T => viewE σ H (H T))[k]? = some (viewE σ H (H σ[k])) := by simp [c]
          have := hkept k _ _ hI k1
          cases hx : viewE σ H (H σ[k]) with
          | root e1 r1 => rw [hx] at this; exact this.2
          | box cs => rw [hx] at this; exact this.elim
          | dead => rw [hx] at this; exact this.elim
        · exact hnew k _ c k1
      have hpr2 : PurRows rows2 := pur_at p (.list e rows) (.list _ _ hpr) e2 rows2 hp
      rw [h2]
      rcases h'.node k e rows k3 p e2 rows2 hp with ⟨m1, m2⟩ | ⟨b, cap, cur, m1, m2, m3, m4, m5, m6, m7, m8⟩
      · exact .inl ⟨by rw [k4]; exact m1, m2⟩
      · have hb : (w.heap.size ≤ b) ∨ (b < w.heap.size ∧ ∃ T ∈ σ, ∃ p, g.own b = some (T, p) ∧ (E.w0.heap.size ≤ b ∨ ∀ o, E.own b o)) := by
          rcases Nat.lt_or_ge b w.heap.size with c | c
          · rcases m3 with m3 | m3
            · exact .inl m3
            · exact .inr ⟨c, own_all h m3⟩
          · exact .inl c
        refine .inr ⟨b, cap, cur, by rw [k4]; exact m1, ?_, ?_, m4, m5, m6, m7, fun i r hr => ?_⟩
        · rw [← hg2]
          rcases hb with hb | ⟨hb, T, hT, q, hq, _⟩
          · simp only [Gh.back, if_pos hb, m2, Option.map_some]
          · obtain ⟨kk, hkk⟩ := idx_mem hT
            simp only [Gh.back, if_neg (Nat.not_le.2 hb), hq, hkk, m2, Option.map_some]
        · rcases hb with hb | ⟨_, T, hT, q, _, hq⟩
          · exact .inl (Nat.le_trans h.frm.size hb)
          · exact hq
        · obtain ⟨q1, q2⟩ := m8 i r hr
          refine ⟨q1, fun j c hc => ?_⟩
          obtain ⟨u, q3, q4⟩ := q2 j c hc
          refine ⟨u, q3, ?_⟩
          rw [k4]
          have := hpr2 r (List.mem_of_getElem? hr) c (List.mem_of_getElem? hc)
          cases this <;> exact q4
    · rw [h4] at hX
      refine node_mono hle (h.node X e rows hX p e2 rows2 hp) h5 (fun b hb ho => ?_) (fun b hb ho => same_block h'.frm hb (nown_rt h hm ho))
      rw [← hg2]
      simp only [Gh.back, if_neg (Nat.not_le.2 hb), ho, hi]
  · rcases split X with ⟨k, h1, h2, h3, h4⟩ | ⟨hm, hi, hnr, h4, h5, h6, h7⟩
    · obtain ⟨y, k1, k2, k3, k4, k5⟩ := key k h1
      rw [h2, k2] at hX
      obtain ⟨cs', rfl, rfl⟩ := bkE_box hX
      rcases Nat.lt_or_ge k σ.length with c | c
      rotate_left
      · exact (hnew k _ c k1).elim
      obtain ⟨T, j1, j2, j3, j4⟩ := hin k c
      have hXT : X = T := by rw [h2, j4]
      subst hXT
      have hI : (σ.map fun T => viewE σ H (H T))[k]? = some (viewE σ H (H X)) := by simp [j1]
      have hkp := hkept k _ _ hI k1
      obtain ⟨cs0, hbox⟩ : ∃ cs0, H X = .box cs0 := by
        cases hx : H X with
        | root e1 r1 => rw [hx] at hkp; exact hkp.elim
        | box cs => exact ⟨cs, rfl⟩
        | dead => rw [hx] at hkp; exact hkp.elim
      rw [hbox] at hkp
      obtain ⟨hl, hall⟩ := hkp
      rw [List.length_map] at hl
      obtain ⟨cur0, e0, b1, b2, b3⟩ := h.box X cs0 hbox
      obtain ⟨cur, e, m1, m2, m3⟩ := h'.box k cs' k3
      have hbx : g'.bx k = g.bx X := by
        have := hle'.bx k (hcs k c) (by rw [k3]; rfl)
        rw [this]
        simp only [Gh.call, j1]
      have hbx2 : g2.bx X = g.bx X := by rw [← hg2]; simp only [Gh.back, j2, hbx]
      have hlt : (g.bx X).1 < w.heap.size := (Array.getElem?_eq_some_iff.1 b1).1
      rw [hbx] at m1 m2 m3
      refine ⟨cur, e, by rw [hbx2]; exact m1, by rw [hbx2, ← hg2]; simp only [Gh.back, if_neg (Nat.not_le.2 hlt), b2], fun j c' hj => ?_⟩
      simp only [List.getElem?_map, Option.map_eq_some_iff] at hj
      obtain ⟨c0, hc0, rfl⟩ := hj
      have hjl : j < cs0.length := by rw [← hl]; exact (List.getElem?_eq_some_iff.1 hc0).1
      obtain ⟨n1, n2, _⟩ := b3 j cs0[j] (List.getElem?_eq_getElem hjl)
      obtain ⟨n3, n4, u, n5, n6⟩ := m3 j c0 hc0
      rw [hbx2]
      refine ⟨?_, n2, u, n5, hcr c0 u (List.all_eq_true.1 hall c0 (List.mem_of_getElem? hc0)) n6⟩
      rw [← hg2]
      simp only [Gh.back, if_neg (Nat.not_le.2 hlt), n1, j2, n3, Option.map_some, j4]
    · rw [h4] at hX
      have hb := h.box X cs hX
      obtain ⟨cur0, e0, b1, b2, b3⟩ := hb
      have hlt : (g.bx X).1 < w.heap.size := (Array.getElem?_eq_some_iff.1 b1).1
      refine box_mono hle (h.box X cs hX) h6 (fun hh => by rw [← hg2]; simp only [Gh.back, if_neg (Nat.not_le.2 hlt), hh]) (fun o j ho => by rw [← hg2]; simp only [Gh.back, if_neg (Nat.not_le.2 hlt), ho, hi]) (fun cur e he => ?_)
      obtain ⟨c', q1, q2, q3⟩ := h'.frm.cells _ cur e (0, 0) he
      exact ⟨c', q1, fun o j ho => q3 o (nown_bx h hm b2 ho)⟩
  · rcases split X with ⟨k, h1, h2, h3, h4⟩ | ⟨hm, hi, hnr, h4, h5, h6, h7⟩
    · obtain ⟨y, k1, k2, k3, k4, k5⟩ := key k h1
      rw [h2, k2, bkE_live] at hX
      rw [h2]
      exact k5 (h'.seen k (by rw [k3]; exact hX))
    · rw [h4] at hX
      rw [h7]
      exact h.seen X hX

theorem outC_outE {c : VV} (h : outC c = true) : outE c = true := by cases c <;> first | rfl | (simp [outC] at h)

/-- The state behind such a call. -/
def St.impO (s : St) (σ : List Nat) (O : List Ent) : St := { s with H := putO (bkE σ s.nx) σ s.nx O s.H, nx := s.nx + (O.length - σ.length) }

theorem rel_back (h : Rel P E g s a w) (hn : σ.Nodup) (hok : ∀ T ∈ σ, viewOkE σ s.H (s.H T)) (hlen : σ.length ≤ O.length) (hroom : s.room (O.length - σ.length) = true)
    (hkept : ∀ (k : Nat) (x y : Ent), (σ.map fun T => viewE σ s.H (s.H T))[k]? = some x → O[k]? = some y → keptOk x y) (hnew : ∀ (k : Nat) (y : Ent), σ.length ≤ k → O[k]? = some y → newOk y)
    (h' : HRel P (callEnv σ s.H g w) g' (HpE O) w') (hk : ∀ T, O.length ≤ T → g'.sn T = false) (hle' : HLe (g.call σ) (HpE (σ.map fun T => viewE σ s.H (s.H T))) g' (HpE O))
    {v : VV} {val : Value} (ho : outV v = true) (hv : VRel P (callEnv σ s.H g w) (HpE O) g' v val) :
    ∃ g2, Rel P E g2 (s.impO σ O) a w' ∧ HLe g s.H g2 (s.impO σ O).H ∧ (∀ T, (s.nx ≤ T → s.nx + (O.length - σ.length) ≤ T) → g2.sn T = g.sn T) ∧ VRel P E (s.impO σ O).H g2 (bkV σ s.nx v) val := by
  obtain ⟨h1, h2, h3⟩ := hrel_back (nx := s.nx) h.heap hn hok hlen hkept hnew h' hk hle' (fun T ha hb => fresh_at h hroom ha hb)
  have hsn : ∀ T, (s.nx ≤ T → s.nx + (O.length - σ.length) ≤ T) → (g.back g' σ s.nx (O.length - σ.length) w.heap.size).sn T = g.sn T := fun T hT => by
    have hc : ¬ (s.nx ≤ T ∧ T < s.nx + (O.length - σ.length)) := by omega
    simp only [Gh.back, if_neg hc]
    cases hi : idx σ T with
    | some k =>
      have hm := List.mem_of_getElem? (idx_some hi)
      have := hok T hm
      refine (h.heap.seen T ?_).symm
      cases hx : s.H T with
      | dead => rw [hx] at this; exact this.elim
      | _ => rfl
    | none => rfl
  refine ⟨_, rel_step (n' := s.nx + (O.length - σ.length)) h h2 h1 (fun T hT => ?_), h2, hsn, ?_⟩
  · obtain ⟨f1, f2⟩ := fresh_on (Nat.le_add_right _ _) hT
    rw [hsn T (fun _ => f2)]
    exact h.fresh T f1
  · have hA : ∀ {x : VV} {u : Value}, outA x = true → ARel P (callEnv σ s.H g w) (HpE O) g' x u → ARel P E (s.impO σ O).H (g.back g' σ s.nx (O.length - σ.length) w.heap.size) (bkA σ s.nx x) u := by
      intro x u hx hu
      rcases outA_spec hx with ⟨vs, rfl, hvs⟩ | ⟨hne, hoc⟩
      · obtain ⟨cs, k1, k2, k3⟩ := hu
        refine ⟨cs, k1, by simpa using k2, fun j c u hc hu => ?_⟩
        simp only [List.getElem?_map, Option.map_eq_some_iff] at hc
        obtain ⟨c0, hc0, rfl⟩ := hc
        exact h3 _ _ (outC_outE (hvs c0 (List.mem_of_getElem? hc0))) (k3 j c0 u hc0 hu)
      · rw [arel_eq hne] at hu
        have : bkA σ s.nx x = bkC σ s.nx x := by cases x <;> first | rfl | exact absurd rfl (hne _)
        rw [this]
        exact arel_of_crel (h3 _ _ (outC_outE hoc) hu)
    by_cases ht : ∃ vs, v = .tup vs
    · obtain ⟨vs, rfl⟩ := ht
      obtain ⟨cs, k1, k2, k3⟩ := hv
      refine ⟨cs, k1, by simpa using k2, fun j c u hc hu => ?_⟩
      simp only [List.getElem?_map, Option.map_eq_some_iff] at hc
      obtain ⟨c0, hc0, rfl⟩ := hc
      have ho' : outA c0 = true := by
        simp only [outV, List.all_eq_true] at ho
        exact ho c0 (List.mem_of_getElem? hc0)
      exact hA ho' (k3 j c0 u hc0 hu)
    · have hne : ∀ vs, v ≠ .tup vs := fun vs hh => ht ⟨vs, hh⟩
      rw [vrel_eq hne] at hv
      have k1 : bkV σ s.nx v = bkA σ s.nx v := by cases v <;> first | rfl | exact absurd rfl (hne _)
      have k2 : outA v = true := by cases v <;> first | exact ho | exact absurd rfl (hne _)
      rw [k1]
      exact vrel_of_arel (hA k2 hv)

/-- A call of a function that turns what it is handed. -/
def OwnCall (P : Program) (f : FuncId) (xs : List VV) (s : St) (dst : Option Nat) (K : St → Prop) : Prop :=
  s.lim = none ∧ ∃ σ v O, σ.Nodup ∧ (∀ T ∈ σ, viewOkE σ s.H (s.H T)) ∧ (∀ x ∈ xs, viewOk σ s.H x) ∧ SatO P f (xs.map (viewA σ s.H)) (σ.map fun T => viewE σ s.H (s.H T)) v O ∧
    s.room (O.length - σ.length) = true ∧ ∃ s' : St, (s.impO σ O).putd dst (bkV σ s.nx v) = some s' ∧ K s'
end
end Go.Proofs.Ytmiojnibngncaaa

/- The value-level engine, fifteenth part, e: a call that is handed one row of a slice of the caller's as a variable, and a part of a variable. -/
namespace Go.Proofs.Ytmiojnibngncaaa
open Go Go.RowKit
set_option linter.unusedVariables false
set_option linter.unusedSimpArgs false

/-- A row's cell as a variable's. -/
def flC : PT → VV
  | .int k n => .int k n
  | .bool b => .bool b
  | .str s => .str s
  | .ref T n => .rf T n
  | _ => .any
def flOk : PT → Bool
  | .int _ _ | .bool _ | .str _ | .ref _ _ => true
  | _ => false
/-- A variable's cell as a row's. -/
def roC : VV → PT
  | .int k n => .int k n
  | .bool b => .bool b
  | .str s => .str s
  | .rf T n => .ref T n
  | .nl e => .list e []
  | _ => .hole
/-- What may lie in a row behind the call: the tokens of the call's, but not those of the row and of the variable. -/
def roOk (m kT kB : Nat) : VV → Bool
  | .int _ _ | .bool _ | .str _ | .nl _ => true
  | .rf k _ => decide (k < m) && (decide (k ≠ kT) && decide (k ≠ kB))
  | _ => false
def roA (m kT kB : Nat) : VV → Bool
  | .agg vs => vs.all (roOk m kT kB)
  | x => roOk m kT kB x
def roV (m kT kB : Nat) : VV → Bool
  | .tup vs => vs.all (roA m kT kB)
  | x => roA m kT kB x
/-- A part of a variable that may be handed over. -/
def ptOkB : VV → Bool
  | .int _ _ | .bool _ | .str _ | .nl _ | .rf _ _ => true
  | _ => false
def entCs : Ent → List VV
  | .box cs => cs
  | _ => []
/-- The arguments, the row and the part as variables. -/
def rowArg (T i B j0 : Nat) : VV → VV
  | .np _ _ j => .bp T j
  | .bp _ j => .bp B (j - j0)
  | x => x
def rowArgOk (T i B j0 : Nat) : VV → Prop
  | .np T' i' _ => T' = T ∧ i' = i
  | .bp B' j => B' = B ∧ j0 ≤ j
  | .int _ _ | .bool _ | .str _ => True
  | _ => False
/-- The heap that such a call sees. -/
def rowH (σ : List Nat) (T : Nat) (r : List PT) (B : Nat) (part : List VV) (H : Heap) : Heap := fun X =>
  if X = T then .box (r.map flC) else if X = B then .box part else match idx σ X with
    | some _ => H X
    | none => .dead

theorem node_mono2 {P : Program} {E : Env} {g g' : Gh} {H H' : Heap} {w w' : World} (h : HLe g H g' H') {T : Nat} {p : Path} {e : TypeId} {rows : List (List PT)} (hn : NodeOK P E H g w T p e rows)
    (hhd : ∀ q, g'.hd T (p ++ q) = g.hd T (p ++ q)) (hown : ∀ b, b < w.heap.size → g.own b = some (T, p) → g'.own b = some (T, p)) (hw : ∀ b, b < w.heap.size → g.own b = some (T, p) → w'.heap[b]? = w.heap[b]?) : NodeOK P E H' g' w' T p e rows := by
  have h0 := hhd []
  rw [List.append_nil] at h0
  rcases hn with ⟨h1, h2⟩ | ⟨b, cap, cur, h1, h2, h3, h4, h5, h6, h7, h8⟩
  · exact .inl ⟨by rw [h0]; exact h1, h2⟩
  · have hlt : b < w.heap.size := (Array.getElem?_eq_some_iff.1 h4).1
    refine .inr ⟨b, cap, cur, by rw [h0]; exact h1, hown b hlt h2, h3, by rw [hw b hlt h2]; exact h4, h5, h6, h7, fun i r hr => ?_⟩
    obtain ⟨h9, h10⟩ := h8 i r hr
    refine ⟨h9, fun j c hc => ?_⟩
    obtain ⟨u, h11, h12⟩ := h10 j c hc
    exact ⟨u, h11, by rw [hhd]; exact ocell_mono h h12⟩

theorem same_blockE {E1 : Env} {w' : World} (h' : Frm E1 w') {b : Nat} (hb : b < E1.w0.heap.size) (hno : ∀ o, ¬ E1.own b o) : w'.heap[b]? = E1.w0.heap[b]? := by
  cases hx : E1.w0.heap[b]? with
  | none => rw [Array.getElem?_eq_none_iff] at hx; omega
  | some x =>
    by_cases hc : ∃ c e fz, x = Obj.cells c e fz
    · obtain ⟨c, e, fz, rfl⟩ := hc
      obtain ⟨c', h1, h2, h3⟩ := h'.cells b c e fz hx
      have : c' = c := by
        apply Array.ext_getElem?
        intro i
        exact h3 i (hno i)
      rw [h1, this]
    · exact h'.other b x hx (fun c e fz hh => hc ⟨c, e, fz, hh⟩)

/-- What is handed over. -/
structure RowAt (σ : List Nat) (T i : Nat) (e : TypeId) (rows : List (List PT)) (r : List PT) (B j0 m : Nat) (cs : List VV) (H : Heap) : Prop where
  hn : σ.Nodup
  hT : H T = .root e rows
  hr : rows[i]? = some r
  fl : r.all flOk = true
  hB : H B = .box cs
  le : j0 + m ≤ cs.length
  pk : ((cs.drop j0).take m).all ptOkB = true
  mT : T ∈ σ
  mB : B ∈ σ
  roots : ∀ X ∈ σ, X ≠ T → X ≠ B → ∃ e rows, H X = .root e rows ∧ PurRows rows

/-- The cells that such a call may write. -/
def rowOwn (σ : List Nat) (T b0 o0 k : Nat) (B p0 m : Nat) (H : Heap) (g : Gh) (b o : Nat) : Prop :=
  ownR (σ.filter fun X => decide (X ≠ T) && decide (X ≠ B)) H g b o ∨ (b = b0 ∧ o0 ≤ o ∧ o < o0 + k) ∨ (b = (g.bx B).1 ∧ p0 ≤ o ∧ o < p0 + m)
def rowEnv (σ : List Nat) (T b0 o0 k : Nat) (B p0 m : Nat) (H : Heap) (g : Gh) (w : World) : Env := ⟨w, rowOwn σ T b0 o0 k B p0 m H g, fun _ _ => True, fun _ _ _ _ _ _ => trivial⟩
def Gh.row (g : Gh) (T b0 o0 B p0 : Nat) : Gh :=
  { hd := g.hd
    bx := fun X => if X = T then (b0, o0) else if X = B then ((g.bx B).1, p0) else g.bx X
    own := fun b => if b = b0 then none else g.own b
    ob := fun b o => if b = b0 then some (T, o - o0) else if b = (g.bx B).1 then some (B, o - p0) else none
    sn := g.sn }

section
variable {P : Program} {E : Env} {g g' g2 : Gh} {H H2 : Heap} {s : St} {a : Act} {w w' : World} {ty : Ty} {σ : List Nat} {T i : Nat} {e : TypeId} {rows : List (List PT)} {r : List PT} {B j0 m : Nat} {cs : List VV}

theorem RowAt.tb (d : RowAt σ T i e rows r B j0 m cs H) : T ≠ B := by
  intro h
  have h1 := d.hT
  rw [h, d.hB] at h1
  cases h1

/-- Where the row lies. -/
theorem row_node (h : HRel P E g H w) (d : RowAt σ T i e rows r B j0 m cs H) : ∃ b0 cap cur, g.hd T [] = .slice (some ⟨b0, 0, none⟩) rows.length cap ∧ g.own b0 = some (T, []) ∧ (E.w0.heap.size ≤ b0 ∨ ∀ o, E.own b0 o) ∧
    w.heap[b0]? = some (.cells cur e (0, 0)) ∧ rows.length ≤ cap ∧ cap ≤ maxLen ∧ cur.size = cap * P.cellsOf e ∧
    ∀ i r, rows[i]? = some r → r.length = P.cellsOf e ∧ ∀ j c, r[j]? = some c → ∃ u, cur[i * P.cellsOf e + j]? = some u ∧ ocell H g c (g.hd T [(i, j)]) u := by
  rcases h.node T e rows d.hT [] e rows rfl with ⟨_, h2⟩ | ⟨b, cap, cur, h1, h2, h3, h4, h5, h6, h7, h8⟩
  · have := d.hr
    rw [h2] at this
    simp at this
  · exact ⟨b, cap, cur, h1, h2, h3, h4, h5, h6, h7, fun i r hr => by simpa using h8 i r hr⟩

theorem mem_rest (d : RowAt σ T i e rows r B j0 m cs H) {X : Nat} : X ∈ (σ.filter fun X => decide (X ≠ T) && decide (X ≠ B)) ↔ X ∈ σ ∧ X ≠ T ∧ X ≠ B := by simp

theorem rowH_T {part : List VV} : rowH σ T r B part H T = .box (r.map flC) := by simp [rowH]
theorem rowH_B {part : List VV} (hne : T ≠ B) : rowH σ T r B part H B = .box part := by simp [rowH, Ne.symm hne]
theorem rowH_in {part : List VV} {X : Nat} (h1 : X ≠ T) (h2 : X ≠ B) (hm : X ∈ σ) : rowH σ T r B part H X = H X := by
  obtain ⟨k, hk⟩ := idx_mem hm
  simp [rowH, h1, h2, hk]
theorem rowH_out {part : List VV} {X : Nat} (h1 : X ≠ T) (h2 : X ≠ B) (hm : X ∉ σ) : rowH σ T r B part H X = .dead := by
  simp [rowH, h1, h2, idx_notMem hm]

/-- Who owns a cell that may be written. -/
theorem rowOwn_E (h : HRel P E g H w) (d : RowAt σ T i e rows r B j0 m cs H) {b0 : Nat} {cur : Array Value} (k2 : g.own b0 = some (T, [])) (k3 : E.w0.heap.size ≤ b0 ∨ ∀ o, E.own b0 o) (k4 : w.heap[b0]? = some (.cells cur e (0, 0)))
    {o0 k b o : Nat} (ho : rowOwn σ T b0 o0 k B ((g.bx B).2 + j0) m H g b o) : (E.w0.heap.size ≤ b ∨ E.own b o) ∧ ∃ cur e, w.heap[b]? = some (.cells cur e (0, 0)) := by
  rcases ho with ho | ⟨rfl, _, _⟩ | ⟨rfl, h1, h2⟩
  · rcases ownR_cases h ho with ⟨X, _, p, _, q, q2⟩ | ⟨X, _, j, _, _, q, q2⟩
    · exact ⟨q.imp id (fun q => q o), q2⟩
    · exact ⟨q, q2⟩
  · exact ⟨k3.imp id (fun q => q o), cur, e, k4⟩
  · obtain ⟨cu, e', m1, m2, m3⟩ := h.box B cs d.hB
    have hle := d.le
    obtain ⟨j, rfl⟩ : ∃ j, o = (g.bx B).2 + j := ⟨o - (g.bx B).2, by omega⟩
    have hj : j < cs.length := by omega
    exact ⟨(m3 j cs[j] (List.getElem?_eq_getElem hj)).2.1, cu, e', m1⟩

/-- A cell of another token's slice is not written. -/
theorem row_nrt (h : HRel P E g H w) (d : RowAt σ T i e rows r B j0 m cs H) {b0 o0 k p0 : Nat} (k2 : g.own b0 = some (T, [])) {X : Nat} {p : Path} (hX : X ∉ σ ∨ X = T ∨ X = B) (hp : X = T → p ≠ []) {b : Nat} (hb : g.own b = some (X, p)) (o : Nat) : ¬ rowOwn σ T b0 o0 k B p0 m H g b o := by
  rintro (ho | ⟨rfl, _, _⟩ | ⟨rfl, _, _⟩)
  · refine nown_rt (σ := σ.filter fun X => decide (X ≠ T) && decide (X ≠ B)) h (fun hm => ?_) hb o ho
    have := (mem_rest d).1 hm
    rcases hX with hX | hX | hX
    · exact hX this.1
    · exact this.2.1 hX
    · exact this.2.2 hX
  · rw [k2] at hb
    injection hb with hb
    injection hb with h1 h2
    exact hp h1.symm h2.symm
  · obtain ⟨_, _, _, q, _⟩ := h.box B cs d.hB
    rw [q] at hb; cases hb

theorem hrel_shrink (h : HRel P E g H w) (d : RowAt σ T i e rows r B j0 m cs H) {b0 cap : Nat} {cur : Array Value} (k1 : g.hd T [] = .slice (some ⟨b0, 0, none⟩) rows.length cap) (k2 : g.own b0 = some (T, [])) (k4 : w.heap[b0]? = some (.cells cur e (0, 0)))
    (k8 : ∀ i r, rows[i]? = some r → r.length = P.cellsOf e ∧ ∀ j c, r[j]? = some c → ∃ u, cur[i * P.cellsOf e + j]? = some u ∧ ocell H g c (g.hd T [(i, j)]) u) :
    HRel P (rowEnv σ T b0 (i * P.cellsOf e) (P.cellsOf e) B ((g.bx B).2 + j0) m H g w) (g.row T b0 (i * P.cellsOf e) B ((g.bx B).2 + j0)) (rowH σ T r B ((cs.drop j0).take m) H) w := by
  have hne := d.tb
  obtain ⟨cuB, eB, m1, m2, m3⟩ := h.box B cs d.hB
  have hb0 : (g.bx B).1 ≠ b0 := fun hh => by rw [hh, k2] at m2; cases m2
  have hrt : ∀ {X : Nat}, (rowH σ T r B ((cs.drop j0).take m) H X).isRoot = true → X ≠ T ∧ X ≠ B ∧ X ∈ σ ∧ rowH σ T r B ((cs.drop j0).take m) H X = H X := by
    intro X hx
    by_cases c1 : X = T
    · subst c1; rw [rowH_T] at hx; cases hx
    · by_cases c2 : X = B
      · subst c2; rw [rowH_B hne] at hx; cases hx
      · by_cases c3 : X ∈ σ
        · exact ⟨c1, c2, c3, rowH_in c1 c2 c3⟩
        · rw [rowH_out c1 c2 c3] at hx; cases hx
  refine ⟨Frm.refl _, fun X e' rows' hX p e2 rows2 hp => ?_, fun X cs' hX => ?_, fun X hX => ?_⟩
  · obtain ⟨c1, c2, c3, c4⟩ := hrt (X := X) (by rw [hX]; rfl)
    rw [c4] at hX
    obtain ⟨e3, rows3, q1, q2⟩ := d.roots X c3 c1 c2
    rw [hX] at q1
    injection q1 with q1 q3
    subst q1; subst q3
    have hpr2 : PurRows rows2 := pur_at p (.list e' rows') (.list _ _ q2) e2 rows2 hp
    rcases h.node X e' rows' hX p e2 rows2 hp with ⟨n1, n2⟩ | ⟨b, cap', cur', n1, n2, n3, n4, n5, n6, n7, n8⟩
    · exact .inl ⟨n1, n2⟩
    · have hbb : b ≠ b0 := fun hh => by rw [hh, k2] at n2; injection n2 with n2; injection n2 with n2 _; exact c1 n2.symm
      refine .inr ⟨b, cap', cur', n1, by simp only [Gh.row, if_neg hbb]; exact n2, .inr fun o => .inl (.inl ⟨X, (mem_rest d).2 ⟨c3, c1, c2⟩, e', rows', p, e2, rows2, _, _, hX, hp, n1⟩), n4, n5, n6, n7, fun i' r' hr' => ?_⟩
      obtain ⟨v1, v2⟩ := n8 i' r' hr'
      refine ⟨v1, fun j c hc => ?_⟩
      obtain ⟨u, v3, v4⟩ := v2 j c hc
      refine ⟨u, v3, ?_⟩
      have := hpr2 r' (List.mem_of_getElem? hr') c (List.mem_of_getElem? hc)
      cases this <;> exact v4
  · by_cases c1 : X = T
    · subst c1
      rw [rowH_T] at hX
      injection hX with hX
      subst hX
      obtain ⟨v1, v2⟩ := k8 i r d.hr
      refine ⟨cur, e, by simp only [Gh.row, if_pos]; exact k4, by simp only [Gh.row, if_pos], fun j c hc => ?_⟩
      simp only [List.getElem?_map, Option.map_eq_some_iff] at hc
      obtain ⟨c0, hc0, rfl⟩ := hc
      obtain ⟨u, v3, v4⟩ := v2 j c0 hc0
      have hj : j < P.cellsOf e := by rw [← v1]; exact (List.getElem?_eq_some_iff.1 hc0).1
      refine ⟨by simp only [Gh.row, if_pos, Nat.add_sub_cancel_left], .inr (.inr (.inl ⟨by simp only [Gh.row, if_pos], by simp only [Gh.row, if_pos]; omega, by simp only [Gh.row, if_pos]; omega⟩)), u, by simp only [Gh.row, if_pos]; exact v3, ?_⟩
      have hf := List.all_eq_true.1 d.fl c0 (List.mem_of_getElem? hc0)
      cases c0 <;> first | exact v4 | (simp [flOk] at hf; done) | skip
      case ref Y n =>
        obtain ⟨y1, y2, y3⟩ := v4
        refine ⟨y1, y2, fun hr => ?_⟩
        obtain ⟨_, _, _, z4⟩ := hrt hr
        rw [z4] at hr
        exact y3 hr
    · by_cases c2 : X = B
      · subst c2
        rw [rowH_B hne] at hX
        injection hX with hX
        subst hX
        refine ⟨cuB, eB, by simp only [Gh.row, if_neg c1, if_pos]; exact m1, by simp only [Gh.row, if_neg c1, if_pos, if_neg hb0]; exact m2, fun j c hc => ?_⟩
        rw [List.getElem?_take] at hc
        split at hc
        · rename_i hjm
          rw [List.getElem?_drop] at hc
          obtain ⟨w1, w2, u, w3, w4⟩ := m3 (j0 + j) c hc
          refine ⟨by simp only [Gh.row, if_neg c1, if_pos, if_neg hb0, Nat.add_sub_cancel_left], .inr (.inr (.inr ⟨by simp only [Gh.row, if_neg c1, if_pos], by simp only [Gh.row, if_neg c1, if_pos]; omega, by simp only [Gh.row, if_neg c1, if_pos]; omega⟩)), u, by simp only [Gh.row, if_neg c1, if_pos]; rw [Nat.add_assoc]; exact w3, ?_⟩
          have hmem : c ∈ (cs.drop j0).take m := List.mem_of_getElem? (i := j) (by rw [List.getElem?_take, if_pos hjm, List.getElem?_drop]; exact hc)
          have hf := List.all_eq_true.1 d.pk c hmem
          cases c <;> first | exact w4 | (simp [ptOkB] at hf; done) | skip
          case rf Y n =>
            obtain ⟨y1, y2, y3⟩ := w4
            refine ⟨y1, y2, fun hr => ?_⟩
            obtain ⟨_, _, _, z4⟩ := hrt hr
            rw [z4] at hr
            exact y3 hr
        · cases hc
      · by_cases c3 : X ∈ σ
        · rw [rowH_in c1 c2 c3] at hX
          obtain ⟨e3, rows3, q1, q2⟩ := d.roots X c3 c1 c2
          rw [hX] at q1; cases q1
        · rw [rowH_out c1 c2 c3] at hX; cases hX
  · by_cases c1 : X = T
    · subst c1; exact h.seen X (by rw [d.hT]; rfl)
    · by_cases c2 : X = B
      · subst c2; exact h.seen X (by rw [d.hB]; rfl)
      · by_cases c3 : X ∈ σ
        · rw [rowH_in c1 c2 c3] at hX; exact h.seen X hX
        · rw [rowH_out c1 c2 c3] at hX; cases hX
end
end Go.Proofs.Ytmiojnibngncaaa

/- The value-level engine, fifteenth part, f: what comes back from a call that is handed a row and a part of a variable. -/
namespace Go.Proofs.Ytmiojnibngncaaa
open Go Go.RowKit
set_option linter.unusedVariables false
set_option linter.unusedSimpArgs false

/-- The tokens that such a call turns or makes. -/
def tch (σ : List Nat) (T B nx d X : Nat) : Prop := (X ∈ σ ∧ X ≠ T ∧ X ≠ B) ∨ (nx ≤ X ∧ X < nx + d)
instance {σ : List Nat} {T B nx d X : Nat} : Decidable (tch σ T B nx d X) := by unfold tch; infer_instance
def tokOk (σ : List Nat) (T B nx d : Nat) : VV → Prop
  | .int _ _ | .bool _ | .str _ | .nl _ => True
  | .rf X _ => X ≠ T ∧ X ≠ B ∧ tch σ T B nx d X
  | _ => False
def Gh.grow3 (g g2 : Gh) (σ : List Nat) (T i B nx d sz : Nat) : Gh :=
  { hd := fun X p => if X = T then (match p with
      | (i', _) :: _ => if i' = i then .slice none 0 0 else g.hd T p
      | [] => g.hd T []) else if tch σ T B nx d X then g2.hd X p else g.hd X p
    bx := g.bx
    own := fun b => if sz ≤ b then g2.own b else match g.own b with
      | some (X, p) => if X ∈ σ ∧ X ≠ T ∧ X ≠ B then g2.own b else some (X, p)
      | none => none
    ob := g.ob
    sn := fun X => if X = T then true else if X = B then true else if tch σ T B nx d X then g2.sn X else g.sn X }

section
variable {P : Program} {E : Env} {g g' g2 : Gh} {H H2 H3 : Heap} {s : St} {a : Act} {w w' : World} {ty : Ty} {σ : List Nat} {T i : Nat} {e : TypeId} {rows : List (List PT)} {r : List PT} {B j0 m : Nat} {cs : List VV}

theorem rowOwn_far (h : HRel P E g H w) (d : RowAt σ T i e rows r B j0 m cs H) {b0 o0 k p0 b : Nat} (ho : ∀ o, rowOwn σ T b0 o0 k B p0 m H g b o) :
    ∃ X, X ∈ σ ∧ X ≠ T ∧ X ≠ B ∧ ∃ p, g.own b = some (X, p) ∧ (E.w0.heap.size ≤ b ∨ ∀ o, E.own b o) := by
  obtain ⟨N, hN⟩ := box_bound H g (σ.filter fun X => decide (X ≠ T) && decide (X ≠ B))
  rcases ho (N + o0 + k + p0 + m) with h1 | ⟨_, _, h3⟩ | ⟨_, _, h3⟩
  · rcases h1 with h1 | ⟨X, hX, cs', j, q1, q2, q3, q4⟩
    · rcases ownR_cases (o := 0) (b := b) h (Or.inl h1) with ⟨X, hX, p, q1, q2, _⟩ | ⟨X, hX, j, q1, _⟩
      · obtain ⟨c1, c2, c3⟩ := (mem_rest d).1 hX
        exact ⟨X, c1, c2, c3, p, q1, q2⟩
      · obtain ⟨Y, hY, e', rows', p, e2, rows2, n, c, m1, m2, m3⟩ := h1
        have := (node_lt (h.node Y e' rows' m1 p e2 rows2 m2) m3).2
        rw [this] at q1; cases q1
    · have := hN X hX cs' q1
      omega
  · omega
  · omega

theorem hrel_grow3 (h : HRel P E g H w) (d : RowAt σ T i e rows r B j0 m cs H) {b0 cap : Nat} {cur : Array Value} {nx dd : Nat} {vs part' : List VV} (k1 : g.hd T [] = .slice (some ⟨b0, 0, none⟩) rows.length cap) (k2 : g.own b0 = some (T, [])) (k3 : E.w0.heap.size ≤ b0 ∨ ∀ o, E.own b0 o) (k4 : w.heap[b0]? = some (.cells cur e (0, 0)))
    (k5 : rows.length ≤ cap) (k6 : cap ≤ maxLen) (k7 : cur.size = cap * P.cellsOf e)
    (k8 : ∀ i r, rows[i]? = some r → r.length = P.cellsOf e ∧ ∀ j c, r[j]? = some c → ∃ u, cur[i * P.cellsOf e + j]? = some u ∧ ocell H g c (g.hd T [(i, j)]) u)
    (h2 : HRel P (rowEnv σ T b0 (i * P.cellsOf e) (P.cellsOf e) B ((g.bx B).2 + j0) m H g w) g2 H2 w') (hle2 : HLe (g.row T b0 (i * P.cellsOf e) B ((g.bx B).2 + j0)) (rowH σ T r B ((cs.drop j0).take m) H) g2 H2)
    (hf : ∀ X, nx ≤ X → X < nx + dd → g.sn X = false)
    (eT : H2 T = .box vs) (el : vs.length = r.length) (eB : H2 B = .box part') (em : part'.length = m) (ev : ∀ c ∈ vs, tokOk σ T B nx dd c) (ep : ∀ c ∈ part', tokOk σ T B nx dd c)
    (et : ∀ X, X ≠ T → X ≠ B → tch σ T B nx dd X → H2 X = .dead ∨ ∃ e rows, H2 X = .root e rows ∧ PurRows rows)
    (hT3 : H3 T = .root e (rows.set i (vs.map roC))) (hB3 : H3 B = .box (cs.take j0 ++ part' ++ cs.drop (j0 + m))) (ht3 : ∀ X, X ≠ T → X ≠ B → tch σ T B nx dd X → H3 X = H2 X) (ho3 : ∀ X, X ≠ T → X ≠ B → ¬ tch σ T B nx dd X → H3 X = H X) :
    HRel P E (g.grow3 g2 σ T i B nx dd w.heap.size) H3 w' ∧ HLe g H (g.grow3 g2 σ T i B nx dd w.heap.size) H3 ∧
      (∀ c u, tokOk σ T B nx dd c → CRel P (rowEnv σ T b0 (i * P.cellsOf e) (P.cellsOf e) B ((g.bx B).2 + j0) m H g w) H2 g2 c u → CRel P E H3 (g.grow3 g2 σ T i B nx dd w.heap.size) c u) := by
  have hne := d.tb
  have snT : g.sn T = true := h.seen T (by rw [d.hT]; rfl)
  have snB : g.sn B = true := h.seen B (by rw [d.hB]; rfl)
  obtain ⟨cuB, eBt, m1, m2, m3⟩ := h.box B cs d.hB
  have hb0 : (g.bx B).1 ≠ b0 := fun hh => by rw [hh, k2] at m2; cases m2
  have hblt : b0 < w.heap.size := (Array.getElem?_eq_some_iff.1 k4).1
  have hBlt : (g.bx B).1 < w.heap.size := (Array.getElem?_eq_some_iff.1 m1).1
  have hmj := d.le
  have tchold : ∀ X, g.sn X = true → tch σ T B nx dd X → X ∈ σ ∧ X ≠ T ∧ X ≠ B := fun X hX ht => by
    rcases ht with ht | ht
    · exact ht
    · rw [hf X ht.1 ht.2] at hX; cases hX
  have ntT : ¬ tch σ T B nx dd T := fun ht => (tchold T snT ht).2.1 rfl
  have ntB : ¬ tch σ T B nx dd B := fun ht => (tchold B snB ht).2.2 rfl
  generalize hg3 : g.grow3 g2 σ T i B nx dd w.heap.size = g3
  have g3sn : ∀ X, tch σ T B nx dd X → X ≠ T → X ≠ B → g3.sn X = g2.sn X := fun X ht c1 c2 => by rw [← hg3]; simp only [Gh.grow3, if_neg c1, if_neg c2, if_pos ht]
  have g3hd : ∀ X p, tch σ T B nx dd X → X ≠ T → g3.hd X p = g2.hd X p := fun X p ht c1 => by rw [← hg3]; simp only [Gh.grow3, if_neg c1, if_pos ht]
  have g3ho : ∀ X p, ¬ tch σ T B nx dd X → X ≠ T → g3.hd X p = g.hd X p := fun X p ht c1 => by rw [← hg3]; simp only [Gh.grow3, if_neg c1, if_neg ht]
  have g3bx : g3.bx = g.bx := by rw [← hg3]; rfl
  have g3ob : g3.ob = g.ob := by rw [← hg3]; rfl
  have g3ownL : ∀ b X p, b < w.heap.size → g.own b = some (X, p) → ¬ (X ∈ σ ∧ X ≠ T ∧ X ≠ B) → g3.own b = some (X, p) := fun b X p hb ho hx => by rw [← hg3]; simp only [Gh.grow3, if_neg (Nat.not_le.2 hb), ho, if_neg hx]
  have g3ownN : ∀ b, b < w.heap.size → g.own b = none → g3.own b = none := fun b hb ho => by rw [← hg3]; simp only [Gh.grow3, if_neg (Nat.not_le.2 hb), ho]
  have hcr : ∀ c u, tokOk σ T B nx dd c → CRel P (rowEnv σ T b0 (i * P.cellsOf e) (P.cellsOf e) B ((g.bx B).2 + j0) m H g w) H2 g2 c u → CRel P E H3 g3 c u := fun c u ho hc => by
    cases c <;> first | exact hc | exact ho.elim | skip
    case rf X n =>
      obtain ⟨c1, c2, c3⟩ := ho
      obtain ⟨q1, q2, q3⟩ := hc
      refine ⟨by rw [g3sn X c3 c1 c2]; exact q1, q2, fun hr => ?_⟩
      rw [ht3 X c1 c2 c3] at hr
      rw [g3hd X [] c3 c1]
      exact q3 hr
  have hH1 : ∀ X, X ∈ σ → X ≠ T → X ≠ B → rowH σ T r B ((cs.drop j0).take m) H X = H X := fun X hm c1 c2 => rowH_in c1 c2 hm
  have hle : HLe g H g3 H3 := by
    refine ⟨fun X hX => ?_, fun X e' rows' hX hr => ?_, fun X hX hl => ?_, fun X hX hr => ?_, fun X hX hl => by rw [g3bx]⟩
    · by_cases c1 : X = T
      · rw [← hg3]; simp only [Gh.grow3, if_pos c1]
      · by_cases c2 : X = B
        · rw [← hg3]; simp only [Gh.grow3, if_neg c1, if_pos c2]
        · by_cases c3 : tch σ T B nx dd X
          · rw [g3sn X c3 c1 c2]; exact hle2.sn X hX
          · rw [← hg3]; simp only [Gh.grow3, if_neg c1, if_neg c2, if_neg c3]; exact hX
    · by_cases c1 : X = T
      · subst c1; rw [hT3] at hr; injection hr with hr _; rw [← hr]; exact ⟨rows, d.hT⟩
      · by_cases c2 : X = B
        · subst c2; rw [hB3] at hr; cases hr
        · by_cases c3 : tch σ T B nx dd X
          · rw [ht3 X c1 c2 c3] at hr
            obtain ⟨rows1, q⟩ := hle2.root X e' rows' hX hr
            rw [hH1 X (tchold X hX c3).1 c1 c2] at q
            exact ⟨rows1, q⟩
          · rw [ho3 X c1 c2 c3] at hr; exact ⟨rows', hr⟩
    · by_cases c1 : X = T
      · subst c1; rw [d.hT]; rfl
      · by_cases c2 : X = B
        · subst c2; rw [d.hB]; rfl
        · by_cases c3 : tch σ T B nx dd X
          · obtain ⟨e3, rows3, q, _⟩ := d.roots X (tchold X hX c3).1 c1 c2
            rw [q]; rfl
          · rw [ho3 X c1 c2 c3] at hl; exact hl
    · by_cases c1 : X = T
      · subst c1; rw [← hg3]; simp only [Gh.grow3, if_pos]
      · by_cases c2 : X = B
        · subst c2; rw [hB3] at hr; cases hr
        · by_cases c3 : tch σ T B nx dd X
          · rw [ht3 X c1 c2 c3] at hr
            rw [g3hd X [] c3 c1]
            exact hle2.hd X hX hr
          · exact g3ho X [] c3 c1
  have hsame : ∀ b, b < w.heap.size → (∀ o, ¬ rowOwn σ T b0 (i * P.cellsOf e) (P.cellsOf e) B ((g.bx B).2 + j0) m H g b o) → w'.heap[b]? = w.heap[b]? := fun b hb hno => same_blockE h2.frm hb hno
  have hfr : Frm E w' := by
    refine h.frm.step h2.frm.os h2.frm.tape h2.frm.output h2.frm.size fun b hb => ?_
    by_cases ho : ∃ o, rowOwn σ T b0 (i * P.cellsOf e) (P.cellsOf e) B ((g.bx B).2 + j0) m H g b o
    · obtain ⟨o, ho⟩ := ho
      obtain ⟨_, cu, e', hw⟩ := rowOwn_E h d k2 k3 k4 ho
      obtain ⟨c', q1, q2, q3⟩ := h2.frm.cells b cu e' (0, 0) hw
      refine .inr ⟨cu, e', c', hw, q1, q2, fun o' ho' => q3 o' fun hh => ?_⟩
      rcases (rowOwn_E h d k2 k3 k4 hh).1 with q | q
      · omega
      · exact ho' q
    · exact .inl (hsame b (Nat.lt_of_lt_of_le hb h.frm.size) fun o hh => ho ⟨o, hh⟩)
  refine ⟨⟨hfr, fun X e' rows' hX p e2 rows2 hp => ?_, fun X cs' hX => ?_, fun X hX => ?_⟩, hle, hcr⟩
  · by_cases c1 : X = T
    · subst c1
      rw [hT3] at hX
      injection hX with hX hX2
      subst hX; subst hX2
      cases p with
      | nil =>
        simp only [At, Option.some.injEq, Prod.mk.injEq] at hp
        obtain ⟨rfl, rfl⟩ := hp
        obtain ⟨cur', q1, q2, q3⟩ := h2.frm.cells b0 cur e (0, 0) k4
        obtain ⟨cu2, e2, z1, z2, z3⟩ := h2.box X vs eT
        have hbx : g2.bx X = (b0, i * P.cellsOf e) := by
          have := hle2.bx X snT (by rw [eT]; rfl)
          rw [this]; simp only [Gh.row, if_pos]
        rw [hbx] at z1 z2 z3
        simp only at z1 z2 z3
        have hz : cu2 = cur' := by rw [q1] at z1; injection z1 with z1; injection z1 with z1 _ _; exact z1.symm
        subst hz
        refine .inr ⟨b0, cap, cu2, by rw [← hg3]; simp only [Gh.grow3, if_pos, List.length_set]; exact k1, g3ownL b0 X [] hblt k2 (fun hh => hh.2.1 rfl), k3, q1, by rw [List.length_set]; exact k5, k6, by rw [q2]; exact k7, fun i' r' hr' => ?_⟩
        rw [List.getElem?_set] at hr'
        split at hr'
        · rename_i hi
          subst hi
          split at hr'
          · simp only [Option.some.injEq] at hr'
            subst hr'
            obtain ⟨v1, v2⟩ := k8 i r d.hr
            refine ⟨by rw [List.length_map, el]; exact v1, fun j c hc => ?_⟩
            simp only [List.getElem?_map, Option.map_eq_some_iff] at hc
            obtain ⟨c0, hc0, rfl⟩ := hc
            obtain ⟨_, _, u, z4, z5⟩ := z3 j c0 hc0
            refine ⟨u, z4, ?_⟩
            have hok := ev c0 (List.mem_of_getElem? hc0)
            have hz := hcr c0 u hok z5
            cases c0 <;> first | exact hz | exact hok.elim | skip
            case nl e5 =>
              have hz : u = .slice none 0 0 := hz
              subst hz
              show Value.slice none 0 0 = g3.hd X ([] ++ [(i, j)])
              rw [← hg3]
              simp only [Gh.grow3, if_pos, List.nil_append]
          · cases hr'
        · rename_i hi
          obtain ⟨v1, v2⟩ := k8 i' r' hr'
          refine ⟨v1, fun j c hc => ?_⟩
          obtain ⟨u, v3, v4⟩ := v2 j c hc
          have hj : j < P.cellsOf e := by rw [← v1]; exact (List.getElem?_eq_some_iff.1 hc).1
          refine ⟨u, ?_, ?_⟩
          · rw [q3 _ fun hh => ?_]
            · exact v3
            · rcases hh with hh | ⟨_, hh1, hh2⟩ | ⟨hh, _, _⟩
              · exact nown_rt (σ := σ.filter fun Y => decide (Y ≠ X) && decide (Y ≠ B)) h (fun hm => ((mem_rest d).1 hm).2.1 rfl) k2 _ hh
              · rcases Nat.lt_or_ge i' i with c | c
                · have := Nat.mul_le_mul_right (P.cellsOf e) (Nat.succ_le_of_lt c)
                  rw [Nat.succ_mul] at this
                  omega
                · have c : i < i' := by omega
                  have := Nat.mul_le_mul_right (P.cellsOf e) (Nat.succ_le_of_lt c)
                  rw [Nat.succ_mul] at this
                  omega
              · exact hb0 hh.symm
          · have hh : g3.hd X ([] ++ [(i', j)]) = g.hd X [(i', j)] := by rw [← hg3]; simp only [Gh.grow3, if_pos, List.nil_append, if_neg (Ne.symm hi)]
            rw [hh]
            exact ocell_mono hle v4
      | cons x q =>
        obtain ⟨i', j⟩ := x
        by_cases hi : i' = i
        · subst hi
          simp only [At] at hp
          have hlt : i' < rows.length := (List.getElem?_eq_some_iff.1 d.hr).1
          rw [List.getElem?_set_self hlt] at hp
          simp only [Option.getD_some, List.getElem?_map] at hp
          cases hv : vs[j]? with
          | none => rw [hv] at hp; simp at hp
          | some c0 =>
            rw [hv] at hp
            simp only [Option.map_some, Option.bind_some] at hp
            have hok := ev c0 (List.mem_of_getElem? hv)
            have hnil : ∀ (e5 : TypeId), At q (.list e5 []) = some (e2, rows2) → q = [] ∧ rows2 = [] := fun e5 hh => by
              cases q with
              | nil => simp only [At, Option.some.injEq, Prod.mk.injEq] at hh; exact ⟨rfl, hh.2.symm⟩
              | cons y q => obtain ⟨y1, y2⟩ := y; simp [At] at hh
            have hbad : ∀ (c : PT), (∀ e rows, c ≠ .list e rows) → At q c ≠ some (e2, rows2) := fun c hc hh => by
              cases q with
              | nil => cases c <;> first | (simp [At] at hh; done) | exact hc _ _ rfl
              | cons y q => obtain ⟨y1, y2⟩ := y; cases c <;> first | (simp [At] at hh; done) | exact hc _ _ rfl
            cases c0
            case nl e5 =>
              obtain ⟨rfl, rfl⟩ := hnil e5 hp
              exact .inl ⟨by rw [← hg3]; simp only [Gh.grow3, if_pos], rfl⟩
            all_goals first | exact hok.elim | exact absurd hp (hbad _ (by intro _ _ hh; cases hh))
        · have hp' : At ((i', j) :: q) (.list e rows) = some (e2, rows2) := by
            simp only [At] at hp ⊢
            rwa [List.getElem?_set_ne (Ne.symm hi)] at hp
          refine node_mono2 hle (h.node X e rows d.hT _ e2 rows2 hp') (fun q' => by rw [← hg3]; simp only [Gh.grow3, if_pos, List.cons_append, if_neg hi]) (fun b hb ho => g3ownL b X _ hb ho (fun hh => hh.2.1 rfl)) (fun b hb ho => hsame b hb (row_nrt h d k2 (.inr (.inl rfl)) (fun _ hh => by cases hh) ho))
    · by_cases c2 : X = B
      · subst c2; rw [hB3] at hX; cases hX
      · by_cases c3 : tch σ T B nx dd X
        · rw [ht3 X c1 c2 c3] at hX
          have hpr : PurRows rows' := by
            rcases et X c1 c2 c3 with q | ⟨e5, r5, q1, q2⟩
            · rw [q] at hX; cases hX
            · rw [q1] at hX; injection hX with _ hX; rw [← hX]; exact q2
          have hpr2 : PurRows rows2 := pur_at p (.list e' rows') (.list _ _ hpr) e2 rows2 hp
          rcases h2.node X e' rows' hX p e2 rows2 hp with ⟨n1, n2⟩ | ⟨b, cap', cur', n1, n2, n3, n4, n5, n6, n7, n8⟩
          · exact .inl ⟨by rw [g3hd X p c3 c1]; exact n1, n2⟩
          · have hbb : g3.own b = some (X, p) ∧ (E.w0.heap.size ≤ b ∨ ∀ o, E.own b o) := by
              rcases n3 with n3 | n3
              · have n3 : w.heap.size ≤ b := n3
                exact ⟨by rw [← hg3]; simp only [Gh.grow3, if_pos n3]; exact n2, .inl (Nat.le_trans h.frm.size n3)⟩
              · rcases Nat.lt_or_ge b w.heap.size with c | c
                · obtain ⟨Y, y1, y2, y3, q, y4, y5⟩ := rowOwn_far h d n3
                  exact ⟨by rw [← hg3]; simp only [Gh.grow3, if_neg (Nat.not_le.2 c), y4]; rw [if_pos ⟨y1, y2, y3⟩]; exact n2, y5⟩
                · exact ⟨by rw [← hg3]; simp only [Gh.grow3, if_pos c]; exact n2, .inl (Nat.le_trans h.frm.size c)⟩
            refine .inr ⟨b, cap', cur', by rw [g3hd X p c3 c1]; exact n1, hbb.1, hbb.2, n4, n5, n6, n7, fun i' r' hr' => ?_⟩
            obtain ⟨v1, v2⟩ := n8 i' r' hr'
            refine ⟨v1, fun j c hc => ?_⟩
            obtain ⟨u, v3, v4⟩ := v2 j c hc
            refine ⟨u, v3, ?_⟩
            rw [g3hd X _ c3 c1]
            have := hpr2 r' (List.mem_of_getElem? hr') c (List.mem_of_getElem? hc)
            cases this <;> exact v4
        · rw [ho3 X c1 c2 c3] at hX
          have hnm : X ∉ σ := fun hm => c3 (.inl ⟨hm, c1, c2⟩)
          refine node_mono hle (h.node X e' rows' hX p e2 rows2 hp) (fun q => g3ho X q c3 c1) (fun b hb ho => g3ownL b X p hb ho (fun hh => hnm hh.1)) (fun b hb ho => hsame b hb (row_nrt h d k2 (.inl hnm) (fun hh => absurd hh c1) ho))
  · by_cases c1 : X = T
    · subst c1; rw [hT3] at hX; cases hX
    · by_cases c2 : X = B
      · subst c2
        rw [hB3] at hX
        injection hX with hX
        subst hX
        obtain ⟨cur', q1, q2, q3⟩ := h2.frm.cells (g.bx X).1 cuB eBt (0, 0) m1
        obtain ⟨cu2, e2, z1, z2, z3⟩ := h2.box X part' eB
        have hbx : g2.bx X = ((g.bx X).1, (g.bx X).2 + j0) := by
          have := hle2.bx X snB (by rw [eB]; rfl)
          rw [this]; simp only [Gh.row, if_neg c1, if_pos]
        rw [hbx] at z1 z2 z3
        simp only at z1 z2 z3
        have hz : cu2 = cur' := by rw [q1] at z1; injection z1 with z1; injection z1 with z1 _ _; exact z1.symm
        subst hz
        have hsm : ∀ j, j < cs.length → (j < j0 ∨ j0 + m ≤ j) → cu2[(g.bx X).2 + j]? = cuB[(g.bx X).2 + j]? := fun j hj hr => by
          refine q3 _ fun hh => ?_
          rcases hh with hh | ⟨hh, _, _⟩ | ⟨_, hh1, hh2⟩
          · exact nown_bx (σ := σ.filter fun Y => decide (Y ≠ T) && decide (Y ≠ X)) h (fun hm => ((mem_rest d).1 hm).2.2 rfl) m2 (m3 j cs[j] (List.getElem?_eq_getElem hj)).1 hh
          · exact hb0 hh
          · omega
        refine ⟨cu2, eBt, by rw [g3bx]; exact q1, by rw [g3bx]; exact g3ownN _ hBlt m2, fun j c hc => ?_⟩
        rw [g3bx, g3ob]
        have hl0 : (cs.take j0).length = j0 := by rw [List.length_take]; omega
        rcases Nat.lt_or_ge j j0 with d1 | d1
        · rw [List.append_assoc, List.getElem?_append_left (by rw [hl0]; exact d1), List.getElem?_take, if_pos d1] at hc
          obtain ⟨w1, w2, u, w3, w4⟩ := m3 j c hc
          exact ⟨w1, w2, u, by rw [hsm j (by omega) (.inl d1)]; exact w3, crel_mono hle w4⟩
        · rcases Nat.lt_or_ge j (j0 + m) with d2 | d2
          · rw [List.append_assoc, List.getElem?_append_right (by rw [hl0]; exact d1), List.getElem?_append_left (by rw [hl0, em]; omega), hl0] at hc
            obtain ⟨w1, w2, _⟩ := m3 j cs[j] (List.getElem?_eq_getElem (by omega))
            obtain ⟨_, _, u, z4, z5⟩ := z3 (j - j0) c hc
            refine ⟨w1, w2, u, ?_, hcr c u (ep c (List.mem_of_getElem? hc)) z5⟩
            rw [show (g.bx X).2 + j = (g.bx X).2 + j0 + (j - j0) by omega]
            exact z4
          · rw [List.getElem?_append_right (by rw [List.length_append, hl0, em]; exact d2), List.length_append, hl0, em, List.getElem?_drop, show j0 + m + (j - (j0 + m)) = j by omega] at hc
            have hj : j < cs.length := (List.getElem?_eq_some_iff.1 hc).1
            obtain ⟨w1, w2, u, w3, w4⟩ := m3 j c hc
            exact ⟨w1, w2, u, by rw [hsm j hj (.inr d2)]; exact w3, crel_mono hle w4⟩
      · by_cases c3 : tch σ T B nx dd X
        · rw [ht3 X c1 c2 c3] at hX
          rcases et X c1 c2 c3 with q | ⟨e5, r5, q1, q2⟩
          · rw [q] at hX; cases hX
          · rw [q1] at hX; cases hX
        · rw [ho3 X c1 c2 c3] at hX
          have hnm : X ∉ σ := fun hm => c3 (.inl ⟨hm, c1, c2⟩)
          obtain ⟨cuX, eX, b1, b2, b3⟩ := h.box X cs' hX
          have hlt : (g.bx X).1 < w.heap.size := (Array.getElem?_eq_some_iff.1 b1).1
          refine box_mono hle (h.box X cs' hX) (by rw [g3bx]) (fun hh => g3ownN _ hlt hh) (fun o j ho => by rw [g3ob]; exact ho) (fun cu e' he => ?_)
          obtain ⟨c', q1, q2, q3⟩ := h2.frm.cells _ cu e' (0, 0) he
          refine ⟨c', q1, fun o j ho => q3 o fun hh => ?_⟩
          rcases hh with hh | ⟨hh, _, _⟩ | ⟨hh, hh1, hh2⟩
          · exact nown_bx (σ := σ.filter fun Y => decide (Y ≠ T) && decide (Y ≠ B)) h (fun hm => hnm ((mem_rest d).1 hm).1) b2 ho hh
          · rw [hh, k2] at b2; cases b2
          · obtain ⟨jj, rfl⟩ : ∃ jj, o = (g.bx B).2 + jj := ⟨o - (g.bx B).2, by omega⟩
            have hjj : jj < cs.length := by omega
            have := (m3 jj cs[jj] (List.getElem?_eq_getElem hjj)).1
            rw [hh, this] at ho
            injection ho with ho
            injection ho with ho _
            exact c2 ho.symm
  · by_cases c1 : X = T
    · rw [← hg3]; simp only [Gh.grow3, if_pos c1]
    · by_cases c2 : X = B
      · rw [← hg3]; simp only [Gh.grow3, if_neg c1, if_pos c2]
      · by_cases c3 : tch σ T B nx dd X
        · rw [ht3 X c1 c2 c3] at hX
          rw [g3sn X c3 c1 c2]
          exact h2.seen X hX
        · rw [ho3 X c1 c2 c3] at hX
          rw [← hg3]; simp only [Gh.grow3, if_neg c1, if_neg c2, if_neg c3]
          exact h.seen X hX
end
end Go.Proofs.Ytmiojnibngncaaa

/- The value-level engine, fifteenth part, g: the call that is handed a row and a part of a variable. -/
namespace Go.Proofs.Ytmiojnibngncaaa
open Go Go.RowKit
set_option linter.unusedVariables false
set_option linter.unusedSimpArgs false

/-- The state behind such a call. -/
def St.impR (s : St) (σ : List Nat) (O : List Ent) (T i : Nat) (e : TypeId) (rows : List (List PT)) (B j0 m : Nat) (cs vs part : List VV) : St :=
  { s with H := updH T (.root e (rows.set i (vs.map fun c => roC (bkC σ s.nx c)))) (updH B (.box (cs.take j0 ++ part.map (bkC σ s.nx) ++ cs.drop (j0 + m))) (putO (bkE σ s.nx) σ s.nx O s.H)), nx := s.nx + (O.length - σ.length) }
def isRt : Ent → Prop
  | .root _ rows => PurRows rows
  | _ => False
/-- A call of a function that is handed a row of a slice and a part of a variable, as if they were variables. -/
def RowCall (P : Program) (f : FuncId) (xs : List VV) (s : St) (dst : Option Nat) (K : St → Prop) : Prop :=
  s.lim = none ∧ ∃ (σ : List Nat) (v : VV) (O : List Ent) (T i : Nat) (e : TypeId) (rows : List (List PT)) (r : List PT) (B j0 m : Nat) (cs : List VV) (kT kB : Nat) (vs part : List VV),
    σ.Nodup ∧ s.H T = .root e rows ∧ rows[i]? = some r ∧ r.all flOk = true ∧ s.H B = .box cs ∧ j0 + m ≤ cs.length ∧ ((cs.drop j0).take m).all ptOkB = true ∧ σ[kT]? = some T ∧ σ[kB]? = some B ∧
    (∀ X ∈ σ, X ≠ T → X ≠ B → isRt (s.H X)) ∧ (∀ X ∈ σ, viewOkE σ (rowH σ T r B ((cs.drop j0).take m) s.H) (rowH σ T r B ((cs.drop j0).take m) s.H X)) ∧ (∀ x ∈ xs, rowArgOk T i B j0 x) ∧
    SatO P f (xs.map fun x => viewA σ (rowH σ T r B ((cs.drop j0).take m) s.H) (rowArg T i B j0 x)) (σ.map fun X => viewE σ (rowH σ T r B ((cs.drop j0).take m) s.H) (rowH σ T r B ((cs.drop j0).take m) s.H X)) v O ∧
    O[kT]? = some (.box vs) ∧ vs.all (roOk O.length kT kB) = true ∧ O[kB]? = some (.box part) ∧ part.all (roOk O.length kT kB) = true ∧ roV O.length kT kB v = true ∧
    s.room (O.length - σ.length) = true ∧ ∃ s' : St, (s.impR σ O T i e rows B j0 m cs vs part).putd dst (bkV σ s.nx v) = some s' ∧ K s'

section
variable {P : Program} {E : Env} {g g' g2 : Gh} {H H2 H3 : Heap} {s : St} {a : Act} {w w' : World} {ty : Ty} {σ : List Nat} {T i : Nat} {e : TypeId} {rows : List (List PT)} {r : List PT} {B j0 m : Nat} {cs : List VV}

theorem roOk_outE {m kT kB : Nat} {c : VV} (h : roOk m kT kB c = true) : outE c = true := by cases c <;> first | rfl | (simp [roOk] at h)

theorem vrel_through {E1 : Env} {Ha : Heap} {ga : Gh} {Hb : Heap} {gb : Gh} {nx mm kT kB : Nat} (hc : ∀ c u, roOk mm kT kB c = true → CRel P E1 Ha ga c u → CRel P E Hb gb (bkC σ nx c) u) {v : VV} {val : Value} (ho : roV mm kT kB v = true) (hv : VRel P E1 Ha ga v val) : VRel P E Hb gb (bkV σ nx v) val := by
  have hA : ∀ {x : VV} {u : Value}, roA mm kT kB x = true → ARel P E1 Ha ga x u → ARel P E Hb gb (bkA σ nx x) u := by
    intro x u hx hu
    by_cases ha : ∃ vs, x = .agg vs
    · obtain ⟨vs, rfl⟩ := ha
      obtain ⟨cs, k1, k2, k3⟩ := hu
      refine ⟨cs, k1, by simpa using k2, fun j c u hc2 hu => ?_⟩
      simp only [List.getElem?_map, Option.map_eq_some_iff] at hc2
      obtain ⟨c0, hc0, rfl⟩ := hc2
      exact hc _ _ (List.all_eq_true.1 hx c0 (List.mem_of_getElem? hc0)) (k3 j c0 u hc0 hu)
    · have hne : ∀ vs, x ≠ .agg vs := fun vs hh => ha ⟨vs, hh⟩
      rw [arel_eq hne] at hu
      have h1 : bkA σ nx x = bkC σ nx x := by cases x <;> first | rfl | exact absurd rfl (hne _)
      have h2 : roOk mm kT kB x = true := by cases x <;> first | exact hx | exact absurd rfl (hne _)
      rw [h1]
      exact arel_of_crel (hc _ _ h2 hu)
  by_cases ht : ∃ vs, v = .tup vs
  · obtain ⟨vs, rfl⟩ := ht
    obtain ⟨cs, k1, k2, k3⟩ := hv
    refine ⟨cs, k1, by simpa using k2, fun j c u hc2 hu => ?_⟩
    simp only [List.getElem?_map, Option.map_eq_some_iff] at hc2
    obtain ⟨c0, hc0, rfl⟩ := hc2
    exact hA (List.all_eq_true.1 ho c0 (List.mem_of_getElem? hc0)) (k3 j c0 u hc0 hu)
  · have hne : ∀ vs, v ≠ .tup vs := fun vs hh => ht ⟨vs, hh⟩
    rw [vrel_eq hne] at hv
    have k1 : bkV σ nx v = bkA σ nx v := by cases v <;> first | rfl | exact absurd rfl (hne _)
    have k2 : roA mm kT kB v = true := by cases v <;> first | exact ho | exact absurd rfl (hne _)
    rw [k1]
    exact vrel_of_arel (hA k2 hv)

/-- The call, from the machine's side. -/
theorem row_run (h : Rel P E g s a w) {f : FuncId} {xs : List VV} {vals : List Value} {O : List Ent} {v : VV} {kT kB : Nat} {vs part : List VV}
    (hn : σ.Nodup) (hT : s.H T = .root e rows) (hr : rows[i]? = some r) (hfl : r.all flOk = true) (hB : s.H B = .box cs) (hle : j0 + m ≤ cs.length) (hpk : ((cs.drop j0).take m).all ptOkB = true) (hkT : σ[kT]? = some T) (hkB : σ[kB]? = some B)
    (hrt : ∀ X ∈ σ, X ≠ T → X ≠ B → isRt (s.H X)) (hvo : ∀ X ∈ σ, viewOkE σ (rowH σ T r B ((cs.drop j0).take m) s.H) (rowH σ T r B ((cs.drop j0).take m) s.H X)) (hxo : ∀ x ∈ xs, rowArgOk T i B j0 x)
    (hS : SatO P f (xs.map fun x => viewA σ (rowH σ T r B ((cs.drop j0).take m) s.H) (rowArg T i B j0 x)) (σ.map fun X => viewE σ (rowH σ T r B ((cs.drop j0).take m) s.H) (rowH σ T r B ((cs.drop j0).take m) s.H X)) v O)
    (hOT : O[kT]? = some (.box vs)) (hvs : vs.all (roOk O.length kT kB) = true) (hOB : O[kB]? = some (.box part)) (hpt : part.all (roOk O.length kT kB) = true) (hv : roV O.length kT kB v = true) (hroom : s.room (O.length - σ.length) = true)
    (hlen : vals.length = xs.length) (hargs : ∀ (j : Nat) (x : VV) (u : Value), xs[j]? = some x → vals[j]? = some u → VRel P E s.H g x u) :
    Calls P f vals.toArray w fun ex w' => ∃ val g2, ex = .returned val ∧ Rel P E g2 (s.impR σ O T i e rows B j0 m cs vs part) a w' ∧ (∀ X, (s.nx ≤ X → s.nx + (O.length - σ.length) ≤ X) → g2.sn X = g.sn X) ∧ VRel P E (s.impR σ O T i e rows B j0 m cs vs part).H g2 (bkV σ s.nx v) val := by
  have d : RowAt σ T i e rows r B j0 m cs s.H := ⟨hn, hT, hr, hfl, hB, hle, hpk, List.mem_of_getElem? hkT, List.mem_of_getElem? hkB, fun X hX c1 c2 => by
    have := hrt X hX c1 c2
    cases hx : s.H X with
    | root e rows => rw [hx] at this; exact ⟨e, rows, rfl, this⟩
    | box cs => rw [hx] at this; exact this.elim
    | dead => rw [hx] at this; exact this.elim⟩
  have hne := d.tb
  obtain ⟨b0, cap, cur, k1, k2, k3, k4, k5, k6, k7, k8⟩ := row_node h.heap d
  have h1 := hrel_shrink h.heap d k1 k2 k4 k8
  generalize hH1 : rowH σ T r B ((cs.drop j0).take m) s.H = H1 at *
  have hargs1 : ∀ (j : Nat) (x : VV) (u : Value), (xs.map fun x => viewA σ H1 (rowArg T i B j0 x))[j]? = some x → vals[j]? = some u → ARel P (callEnv σ H1 (g.row T b0 (i * P.cellsOf e) B ((g.bx B).2 + j0)) w) (HpE (σ.map fun X => viewE σ H1 (H1 X))) ((g.row T b0 (i * P.cellsOf e) B ((g.bx B).2 + j0)).call σ) x u := by
    intro j x u hx hu
    simp only [List.getElem?_map, Option.map_eq_some_iff] at hx
    obtain ⟨x0, hx0, rfl⟩ := hx
    have hr0 := hargs j x0 u hx0 hu
    have hok := hxo x0 (List.mem_of_getElem? hx0)
    have hiT := idx_get hn hkT
    have hiB := idx_get hn hkB
    refine viewA_rel h1 ?_ ?_
    · cases x0 <;> first | exact hr0 | exact hok.elim | skip
      case np T' i' j' =>
        obtain ⟨rfl, rfl⟩ := hok
        obtain ⟨q1, q2, q3⟩ := hr0
        refine ⟨q1, q2, fun _ => ?_⟩
        obtain ⟨b, n, c, q4, q5⟩ := q3 e rows hT
        rw [k1] at q4
        injection q4 with q4
        injection q4 with q4
        injection q4 with q4
        subst q4
        rw [q5]
        simp only [Gh.row, if_pos]
      case bp B' j' =>
        obtain ⟨rfl, hj⟩ := hok
        obtain ⟨q1, q2, q3⟩ := hr0
        refine ⟨q1, q2, fun _ => ?_⟩
        rw [q3 (by rw [hB]; rfl)]
        simp only [Gh.row, if_neg (Ne.symm hne), if_pos]
        rw [Nat.add_assoc, show j0 + (j' - j0) = j' by omega]
    · cases x0 <;> first | trivial | exact hok.elim | skip
      case np T' i' j' =>
        obtain ⟨rfl, rfl⟩ := hok
        simp only [rowArg, viewOk, viewOkC, hiT]
      case bp B' j' =>
        obtain ⟨rfl, hj⟩ := hok
        simp only [rowArg, viewOk, viewOkC, hiB]
  have hrun := hS.run (callEnv σ H1 (g.row T b0 (i * P.cellsOf e) B ((g.bx B).2 + j0)) w) ((g.row T b0 (i * P.cellsOf e) B ((g.bx B).2 + j0)).call σ) w vals rfl (hrel_call h1 hn hvo) (fun X hX => by
    have : ¬ X < σ.length := by simpa using hX
    simp [Gh.call, this]) (by simp [hlen]) hargs1
  refine hrun.mono fun ex w' he => ?_
  obtain ⟨val, g', rfl, h2, hk', hle', hval⟩ := he
  have hlO : σ.length ≤ O.length := by simpa using hS.len
  have hfresh : ∀ X, s.nx ≤ X → X < s.nx + (O.length - σ.length) → g.sn X = false := fun X ha hb => fresh_at h hroom ha hb
  obtain ⟨b1, b2, b3⟩ := hrel_back (nx := s.nx) h1 hn hvo hlO hS.kept (fun k y hy => hS.new k y (by simpa using hy)) h2 hk' hle' hfresh
  have snT : g.sn T = true := h.heap.seen T (by rw [hT]; rfl)
  have snB : g.sn B = true := h.heap.seen B (by rw [hB]; rfl)
  have hsn : ∀ X ∈ σ, g.sn X = true := fun X hX => by
    by_cases c1 : X = T
    · rw [c1]; exact snT
    · by_cases c2 : X = B
      · rw [c2]; exact snB
      · obtain ⟨e5, r5, q, _⟩ := d.roots X hX c1 c2
        exact h.heap.seen X (by rw [q]; rfl)
  have hiT := idx_get hn hkT
  have hiB := idx_get hn hkB
  have atH2 := putO_at (bkE σ s.nx) σ hn O hlO s.nx H1
  have atH := putO_at (bkE σ s.nx) σ hn O hlO s.nx s.H
  have hrange : ∀ X, s.nx ≤ X → X < s.nx + (O.length - σ.length) → idx σ X = none := fun X ha hb => idx_notMem fun hm => by
    have := hsn X hm
    rw [hfresh X ha hb] at this
    cases this
  have htok : ∀ c, roOk O.length kT kB c = true → tokOk σ T B s.nx (O.length - σ.length) (bkC σ s.nx c) := fun c hc => by
    cases c <;> first | trivial | (simp [roOk] at hc; done) | skip
    case rf k n =>
      simp only [roOk, Bool.and_eq_true, decide_eq_true_eq] at hc
      obtain ⟨c1, c2, c3⟩ := hc
      show tkB σ s.nx k ≠ T ∧ tkB σ s.nx k ≠ B ∧ tch σ T B s.nx (O.length - σ.length) (tkB σ s.nx k)
      rcases Nat.lt_or_ge k σ.length with c | c
      · have q1 : σ[k]? = some σ[k] := List.getElem?_eq_getElem c
        have q2 : tkB σ s.nx k = σ[k] := by simp only [tkB, q1]
        have q3 := idx_get hn q1
        have n1 : σ[k] ≠ T := fun hh => by rw [hh, hiT] at q3; injection q3 with q3; exact c2 q3.symm
        have n2 : σ[k] ≠ B := fun hh => by rw [hh, hiB] at q3; injection q3 with q3; exact c3 q3.symm
        rw [q2]
        exact ⟨n1, n2, .inl ⟨List.getElem_mem c, n1, n2⟩⟩
      · have q1 : σ[k]? = none := List.getElem?_eq_none c
        have q2 : tkB σ s.nx k = s.nx + (k - σ.length) := by simp only [tkB, q1]
        have q3 := hfresh (s.nx + (k - σ.length)) (by omega) (by omega)
        rw [q2]
        exact ⟨fun hh => (by rw [hh, snT] at q3; cases q3), fun hh => (by rw [hh, snB] at q3; cases q3), .inr ⟨by omega, by omega⟩⟩
  have kp : ∀ (k : Nat) (X : Nat), σ[k]? = some X → ∀ y, O[k]? = some y → keptOk (viewE σ H1 (H1 X)) y := fun k X hX y hy => hS.kept k _ y (by simp [hX]) hy
  have hH1T : H1 T = .box (r.map flC) := by rw [← hH1]; exact rowH_T
  have hH1B : H1 B = .box ((cs.drop j0).take m) := by rw [← hH1]; exact rowH_B hne
  have el : (vs.map (bkC σ s.nx)).length = r.length := by
    have := kp kT T hkT _ hOT
    rw [hH1T] at this
    have := this.1
    simpa using this
  have em : (part.map (bkC σ s.nx)).length = m := by
    have := kp kB B hkB _ hOB
    rw [hH1B] at this
    have := this.1
    simp only [viewE, List.length_map, List.length_take, List.length_drop] at this
    simp only [List.length_map]
    omega
  obtain ⟨c1, c2, c3⟩ := hrel_grow3 (H3 := (s.impR σ O T i e rows B j0 m cs vs part).H) (nx := s.nx) (dd := O.length - σ.length) (vs := vs.map (bkC σ s.nx)) (part' := part.map (bkC σ s.nx)) h.heap d k1 k2 k3 k4 k5 k6 k7 k8 b1 (by rw [hH1]; exact b2) hfresh
    (by rw [atH2, hiT]; simp [hOT, bkE]) el (by rw [atH2, hiB]; simp [hOB, bkE]) em
    (fun c hc => by
      obtain ⟨c0, hc0, rfl⟩ := List.mem_map.1 hc
      exact htok c0 (List.all_eq_true.1 hvs c0 hc0))
    (fun c hc => by
      obtain ⟨c0, hc0, rfl⟩ := List.mem_map.1 hc
      exact htok c0 (List.all_eq_true.1 hpt c0 hc0))
    (fun X n1 n2 ht => by
      rw [atH2]
      rcases ht with ⟨hm, _, _⟩ | ⟨ha, hb⟩
      · obtain ⟨k, hk⟩ := idx_mem hm
        rw [hk]
        have hkx := idx_some hk
        have hkl : k < O.length := Nat.lt_of_lt_of_le (List.getElem?_eq_some_iff.1 hkx).1 hlO
        have q := kp k X hkx _ (List.getElem?_eq_getElem hkl)
        obtain ⟨e5, r5, q5, q6⟩ := d.roots X hm n1 n2
        have q7 : H1 X = .root e5 r5 := by rw [← hH1, rowH_in n1 n2 hm]; exact q5
        rw [q7] at q
        simp only [List.getElem?_eq_getElem hkl, Option.getD_some]
        cases hy : O[k] with
        | dead => exact .inl rfl
        | root e6 r6 => rw [hy] at q; exact .inr ⟨e6, r6, rfl, q.2⟩
        | box cs6 => rw [hy] at q; exact q.elim
      · rw [hrange X ha hb]
        simp only [if_pos (And.intro ha hb)]
        have hkl : σ.length + (X - s.nx) < O.length := by omega
        have q := hS.new (σ.length + (X - s.nx)) _ (by simp) (List.getElem?_eq_getElem hkl)
        simp only [List.getElem?_eq_getElem hkl, Option.getD_some]
        cases hy : O[σ.length + (X - s.nx)] with
        | dead => rw [hy] at q; exact q.elim
        | root e6 r6 => rw [hy] at q; exact .inr ⟨e6, r6, rfl, q⟩
        | box cs6 => rw [hy] at q; exact q.elim)
    (by simp only [St.impR, updH_same, List.map_map]; rfl) (by simp only [St.impR, updH_ne _ _ (Ne.symm hne), updH_same])
    (fun X n1 n2 ht => by
      simp only [St.impR]
      rw [updH_ne _ _ n1, updH_ne _ _ n2, atH, atH2]
      rcases ht with ⟨hm, _, _⟩ | ⟨ha, hb⟩
      · obtain ⟨k, hk⟩ := idx_mem hm
        rw [hk]
      · rw [hrange X ha hb]; simp only [if_pos (And.intro ha hb)])
    (fun X n1 n2 ht => by
      simp only [St.impR]
      rw [updH_ne _ _ n1, updH_ne _ _ n2, atH]
      cases hk : idx σ X with
      | some k => exact absurd (.inl ⟨List.mem_of_getElem? (idx_some hk), n1, n2⟩) ht
      | none =>
        have : ¬ (s.nx ≤ X ∧ X < s.nx + (O.length - σ.length)) := fun hh => ht (.inr hh)
        simp only [if_neg this])
  have hsn3 : ∀ X, (s.nx ≤ X → s.nx + (O.length - σ.length) ≤ X) → (g.grow3 ((g.row T b0 (i * P.cellsOf e) B ((g.bx B).2 + j0)).back g' σ s.nx (O.length - σ.length) w.heap.size) σ T i B s.nx (O.length - σ.length) w.heap.size).sn X = g.sn X := fun X hX => by
    by_cases hs : X ∈ σ
    · rw [hsn X hs]; exact c2.sn X (hsn X hs)
    · have n1 : X ≠ T := fun hh => hs (hh ▸ d.mT)
      have n2 : X ≠ B := fun hh => hs (hh ▸ d.mB)
      have n3 : ¬ tch σ T B s.nx (O.length - σ.length) X := by rintro (⟨hh, _⟩ | ⟨ha, hb⟩); exact hs hh; have := hX ha; omega
      simp only [Gh.grow3, if_neg n1, if_neg n2, if_neg n3]
  refine ⟨val, _, rfl, rel_step (n' := s.nx + (O.length - σ.length)) h c2 c1 (fun X hX => ?_), hsn3, ?_⟩
  · obtain ⟨f1, f2⟩ := fresh_on (Nat.le_add_right _ _) hX
    rw [hsn3 X (fun _ => f2)]
    exact h.fresh X f1
  · refine vrel_through (fun c u hc hu => c3 _ _ (htok c hc) (b3 c u (roOk_outE hc) hu)) hv ?_
    exact hval
end
end Go.Proofs.Ytmiojnibngncaaa
