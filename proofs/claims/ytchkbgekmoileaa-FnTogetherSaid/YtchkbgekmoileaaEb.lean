/- The value-level engine, second bundle: contracts, what comes back from calls. -/
import Derived.Test.YtchkbgekmoileaaEa
/- The value-level engine, fifteenth part: what a call promises, what is handed to it, what comes back. -/
namespace Go.Proofs.Ytchkbgekmoileaa
open Go Go.RowKit
set_option linter.unusedVariables false
set_option linter.unusedSimpArgs false

/-- A tree without references. -/
inductive PT.Pur : PT → Prop
  | int (k n) : PT.Pur (.int k n)
  | bool (b) : PT.Pur (.bool b)
  | str (s) : PT.Pur (.str s)
  | list (e rows) : (∀ r ∈ rows, ∀ c ∈ r, PT.Pur c) → PT.Pur (.list e rows)

def PurRows (rows : List (List PT)) : Prop := ∀ r ∈ rows, ∀ c ∈ r, PT.Pur c

theorem pur_at : ∀ (p : Path) (c : PT), PT.Pur c → ∀ e rows, At p c = some (e, rows) → PurRows rows
  | [], c, h, e, rows, ha => by
    cases c <;> simp [At] at ha
    obtain ⟨rfl, rfl⟩ := ha
    cases h with
    | list _ _ h => exact h
  | (i, j) :: p, c, h, e, rows, ha => by
    cases c with
    | list e0 rows0 =>
      simp only [At] at ha
      cases h with
      | list _ _ h =>
        cases hr : rows0[i]? with
        | none => rw [hr] at ha; simp at ha
        | some r =>
          rw [hr] at ha
          simp only [Option.getD_some] at ha
          cases hc : r[j]? with
          | none => rw [hc] at ha; simp at ha
          | some c' =>
            rw [hc] at ha
            simp only [Option.bind_some] at ha
            exact pur_at p c' (h r (List.mem_of_getElem? hr) c' (List.mem_of_getElem? hc)) e rows ha
    | _ => simp [At] at ha

/-- A cell of a variable, as it is read. -/
def VV.pt (H : Heap) : VV → PT
  | .int k n => .int k n
  | .bool b => .bool b
  | .str s => .str s
  | .nl e => .list e []
  | .fr e rows => .list e rows
  | .rf T n => match H T with
    | .root e rows => .list e (rows.take n)
    | _ => .hole
  | _ => .hole
def ptOk (H : Heap) : VV → Prop
  | .int .. | .bool _ | .str _ | .nl _ | .fr .. => True
  | .rf T n => match H T with
    | .root _ rows => n ≤ rows.length ∧ PurRows rows
    | _ => False
  | _ => False
def frzBox (H : Heap) (T j : Nat) : VV := match H T with
  | .box cs => .fp ((cs.drop j).map (VV.pt H))
  | _ => .any
def frzSl (H : Heap) (T j n : Nat) (e : TypeId) : VV := match H T with
  | .box cs => .fr e (((cs.drop j).take n).map fun c => [VV.pt (fun _ => .dead) c])
  | _ => .any
def oneS : VV → Bool
  | .int .. | .bool _ | .str _ => true
  | _ => false
def frzCap (H : Heap) : VV → VV
  | .bp T j => frzBox H T j
  | x => x
def capsOk (H : Heap) : VV → Prop
  | .bp T j => match H T with
    | .box cs => ∀ x ∈ cs.drop j, ptOk H x
    | _ => False
  | .fp _ => True
  | _ => False

/-- A value as a call is handed it. -/
def frzC (H : Heap) : VV → VV
  | .nl e => .fr e []
  | .rf T n => match H T with
    | .root e rows => .fr e (rows.take n)
    | _ => .any
  | .bp T j => frzBox H T j
  | .bs T j n e => frzSl H T j n e
  | .clo f caps => .clo f (caps.map (frzCap H))
  | x => x
def frzA (H : Heap) : VV → VV
  | .agg vs => .agg (vs.map (frzC H))
  | x => frzC H x

def frzOkC (H : Heap) : VV → Prop
  | .rf T n => match H T with
    | .root e rows => n ≤ rows.length ∧ PurRows rows
    | _ => False
  | .bp T j => match H T with
    | .box cs => ∀ x ∈ cs.drop j, ptOk H x
    | _ => False
  | .bs T j n _ => match H T with
    | .box cs => j + n ≤ cs.length ∧ ∀ x ∈ (cs.drop j).take n, oneS x = true
    | _ => False
  | .clo _ caps => ∀ c ∈ caps, capsOk H c
  | .np .. | .agg _ | .tup _ => False
  | _ => True
def frzOk (H : Heap) : VV → Prop
  | .agg vs => ∀ x ∈ vs, frzOkC H x
  | x => frzOkC H x

/-- The slices that a call hands back. -/
def Hp (l : List (TypeId × List (List PT))) : Heap := fun T => match l[T]? with
  | some (e, rows) => .root e rows
  | none => .dead

def Gh.nil : Gh := ⟨fun _ _ => undef, fun _ => (0, 0), fun _ => none, fun _ _ => none, fun _ => false⟩

def outC : VV → Bool
  | .int _ _ | .bool _ | .str _ | .rf _ _ | .err _ | .any => true
  | _ => false
def outA : VV → Bool
  | .agg vs => vs.all outC
  | x => outC x
def outV : VV → Bool
  | .tup vs => vs.all outA
  | x => outA x

def shC (k : Nat) : VV → VV
  | .rf T n => .rf (k + T) n
  | x => x
def shA (k : Nat) : VV → VV
  | .agg vs => .agg (vs.map (shC k))
  | x => shC k x
def shV (k : Nat) : VV → VV
  | .tup vs => .tup (vs.map (shA k))
  | x => shA k x

def botEnv (w : World) : Env := ⟨w, fun _ _ => False, fun _ _ => True, fun _ _ _ _ _ _ => trivial, fun _ _ => False, fun _ _ h => h⟩

/-- What a function gives for arguments that it only reads. -/
structure SatP (P : Program) (f : FuncId) (args : List VV) (v : VV) (l : List (TypeId × List (List PT))) : Prop where
  fn : ∃ fn, P.funcs[f]? = some fn ∧ (fn.name == "runtime.NumGoroutine") = false ∧ fn.body.isNone = false
  out : outV v = true
  pur : ∀ x ∈ l, PurRows x.2
  run : ∀ (w : World) (vals : List Value), vals.length = args.length → (∀ (j : Nat) (x : VV) (u : Value), args[j]? = some x → vals[j]? = some u → ARel P (botEnv w) (fun _ => .dead) Gh.nil x u) →
    Calls P f vals.toArray w fun e w' => ∃ val g', e = .returned val ∧ HRel P (botEnv w) g' (Hp l) w' ∧ (∀ T, l.length ≤ T → g'.sn T = false) ∧ VRel P (botEnv w) (Hp l) g' v val

section
variable {P : Program} {E : Env} {g g' : Gh} {H : Heap} {s : St} {a : Act} {w w' : World} {ty : Ty}

theorem cell_of_heap {b o : Nat} {cur : Array Value} {e : TypeId} {fz : Nat × Nat} {u : Value} (h : w.heap[b]? = some (.cells cur e fz)) (hu : cur[o]? = some u) : w.cell? ⟨b, o, none⟩ = some u := by
  simp [World.cell?, h, hu]

theorem frm_bot (h : Frm (botEnv w) w') {b : Nat} (hb : b < w.heap.size) : w'.heap[b]? = w.heap[b]? := by
  cases hx : w.heap[b]? with
  | none => rw [Array.getElem?_eq_none_iff] at hx; omega
  | some x =>
    by_cases hc : ∃ c e fz, x = Obj.cells c e fz
    · obtain ⟨c, e, fz, rfl⟩ := hc
      obtain ⟨c', h1, h2, h3⟩ := h.cells b c e fz hx
      have : c' = c := by
        apply Array.ext_getElem?
        intro i
        exact h3 i (fun h => h)
      rw [h1, this]
    · exact h.other b x hx (fun c e fz hh => hc ⟨c, e, fz, hh⟩)

/-- What came in reads, for a call, as what came in. -/
theorem rd_frame {x : PT} {v : Value} (hf : Frm E w) (h : Rd P E x v) : Rd P (botEnv w) x v := by
  cases x <;> try exact h
  case list e rows =>
    obtain ⟨fh, h0, h1⟩ := h
    refine ⟨fh, h0, fun p e' rows' hp => ?_⟩
    obtain ⟨A, cap, h2, h3, h4, h5⟩ := h1 p e' rows' hp
    refine ⟨A, cap, h2, h3, h4, ?_⟩
    rcases h5 with h5 | ⟨b, o, h5, h6⟩
    · exact .inl h5
    · refine .inr ⟨b, o, h5, fun i r hr => ?_⟩
      obtain ⟨h7, h8⟩ := h6 i r hr
      refine ⟨h7, fun j c hc => ?_⟩
      obtain ⟨u, h9, h10⟩ := h8 j c hc
      have h11 := rd_cell hf h9
      refine ⟨u, ⟨?_, fun h => h, h11⟩, h10⟩
      have : b < E.w0.heap.size := h9.1
      exact Nat.lt_of_lt_of_le this hf.size

theorem fcell_of_ocell {c : PT} {hh u : Value} (hc : c.Pur) (h : ocell P E H g c hh u) : fcell c hh u := by
  cases hc <;> exact h

/-- A slice of the call's own, as it is read. -/
theorem rd_root (h : HRel P E g H w) {T : Nat} {e : TypeId} {rows : List (List PT)} (hT : H T = .root e rows) (hp : PurRows rows) {n : Nat} (hn : n ≤ rows.length) : Rd P (botEnv w) (.list e (rows.take n)) (cutv n (g.hd T [])) := by
  have node : ∀ p e' rows', At p (.list e rows) = some (e', rows') → ∀ m, m ≤ rows'.length → RdNode P (botEnv w) e' (rows'.take m) (fun i j => g.hd T (p ++ [(i, j)])) (cutv m (g.hd T p)) := by
    intro p e' rows' hat m hm
    have hpur : PurRows rows' := pur_at p (.list e rows) (.list _ _ hp) e' rows' hat
    have hlen : (rows'.take m).length = m := by simp; omega
    rcases h.node T e rows hT p e' rows' hat with ⟨h1, h2⟩ | ⟨b, cap, cur, h1, h2, h3, h4, h5, h6, h7, h8⟩
    · subst h2
      simp at hm
      subst hm
      exact ⟨none, 0, by rw [h1]; rfl, by simp, by simp [maxLen], .inl (by simp)⟩
    · refine ⟨_, cap, by rw [h1, hlen]; rfl, by rw [hlen]; omega, h6, .inr ⟨b, 0, rfl, fun i r hr => ?_⟩⟩
      rw [List.getElem?_take] at hr
      split at hr
      · obtain ⟨h9, h10⟩ := h8 i r hr
        refine ⟨h9, fun j c hc => ?_⟩
        obtain ⟨u, h11, h12⟩ := h10 j c hc
        refine ⟨u, ⟨(Array.getElem?_eq_some_iff.1 h4).1, fun h => h, ?_⟩, fcell_of_ocell (hpur r (List.mem_of_getElem? hr) c (List.mem_of_getElem? hc)) h12⟩
        rw [Nat.zero_add]
        exact cell_of_heap h4 h11
      · cases hr
  refine ⟨fun p => if p = [] then cutv n (g.hd T []) else g.hd T p, by simp, fun p e' rows' hat => ?_⟩
  cases p with
  | nil =>
    simp only [At, Option.some.injEq, Prod.mk.injEq] at hat
    obtain ⟨rfl, rfl⟩ := hat
    have := node [] e rows rfl n hn
    simpa using this
  | cons x q =>
    obtain ⟨i, j⟩ := x
    have hat' : At ((i, j) :: q) (.list e rows) = some (e', rows') := by
      simp only [At] at hat ⊢
      rw [List.getElem?_take] at hat
      split at hat
      · exact hat
      · simp at hat
    have h1 := node _ e' rows' hat' rows'.length (Nat.le_refl _)
    rw [List.take_length] at h1
    have h2 : cutv rows'.length (g.hd T ((i, j) :: q)) = g.hd T ((i, j) :: q) := by
      rcases h.node T e rows hT _ e' rows' hat' with ⟨h1, h2⟩ | ⟨b, cap, cur, h1, _⟩
      · rw [h1, h2]; rfl
      · rw [h1]; rfl
    rw [h2] at h1
    simpa using h1

theorem rd_nil {e : TypeId} {E : Env} : Rd P E (.list e []) (.slice none 0 0) := by
  refine ⟨fun _ => .slice none 0 0, rfl, fun p e' rows' hp => ?_⟩
  cases p with
  | nil =>
    simp only [At, Option.some.injEq, Prod.mk.injEq] at hp
    obtain ⟨rfl, rfl⟩ := hp
    exact ⟨none, 0, rfl, by simp, by simp [maxLen], .inl rfl⟩
  | cons x q => obtain ⟨i, j⟩ := x; simp [At] at hp

theorem pt_rel (h : HRel P E g H w) {x : VV} {u : Value} (hx : CRel P E H g x u) (hok : ptOk H x) : Rd P (botEnv w) (x.pt H) u := by
  cases x with
  | nl e => have hx : u = .slice none 0 0 := hx; subst hx; exact rd_nil
  | fr e rows => exact rd_frame (x := .list e rows) h.frm hx
  | rf T n =>
    simp only [ptOk] at hok
    split at hok
    · rename_i e rows hT
      obtain ⟨h1, h2⟩ := hok
      obtain ⟨_, _, hv⟩ := hx
      have hv := hv (by simp [hT, Ent.isRoot])
      simp only [VV.pt, hT]
      rw [hv]
      exact rd_root h hT h2 h1
    · exact hok.elim
  | int => exact hx
  | bool => exact hx
  | str => exact hx
  | _ => exact hok.elim

theorem fp_frame (hf : Frm E w) {row : List PT} {v : Value} (hx : CapRel P E H g (.fp row) v) {H' : Heap} {g' : Gh} : CapRel P (botEnv w) H' g' (.fp row) v := by
  obtain ⟨b, o, h1, h2⟩ := hx
  refine ⟨b, o, h1, fun j c hc => ?_⟩
  obtain ⟨u, h3, h4⟩ := h2 j c hc
  exact ⟨u, ⟨Nat.lt_of_lt_of_le h3.1 hf.size, fun h => h, rd_cell hf h3⟩, rd_frame hf h4⟩

theorem box_frame (h : HRel P E g H w) {T j : Nat} {v : Value} (hx : CapRel P E H g (.bp T j) v) (hok : capsOk H (.bp T j)) {H' : Heap} {g' : Gh} : CapRel P (botEnv w) H' g' (frzBox H T j) v := by
  simp only [capsOk] at hok
  split at hok
  · rename_i cs hT
    obtain ⟨_, _, hv⟩ := hx
    have hv := hv (by simp [hT, Ent.live])
    obtain ⟨cur, e, hw, _, hc⟩ := h.box T cs hT
    simp only [frzBox, hT]
    refine ⟨_, _, hv, fun k c hk => ?_⟩
    simp only [List.getElem?_map, List.getElem?_drop, Option.map_eq_some_iff] at hk
    obtain ⟨x, hx, rfl⟩ := hk
    obtain ⟨_, _, u, hu, hr⟩ := hc (j + k) x hx
    refine ⟨u, ⟨(Array.getElem?_eq_some_iff.1 hw).1, fun h => h, ?_⟩, pt_rel h hr (hok x (List.mem_of_getElem? (i := k) (by rw [List.getElem?_drop]; exact hx)))⟩
    have := cell_of_heap hw hu
    rw [Nat.add_assoc]
    exact this
  · exact hok.elim

theorem scal_pt {E : Env} {H : Heap} {g : Gh} {x : VV} {u : Value} (h : oneS x = true) (hx : CRel P E H g x u) (f : Value) : fcell (VV.pt (fun _ => .dead) x) f u := by
  cases x <;> first | exact hx | cases h
theorem bs_frame {E2 : Env} (h : HRel P E g H w) {T j n : Nat} {e : TypeId} {v : Value} (hx : CRel P E H g (.bs T j n e) v) (hok : frzOkC H (.bs T j n e))
    (hrd : ∀ cs, H T = .box cs → ∀ k u, k < cs.length → w.cell? ⟨(g.bx T).1, (g.bx T).2 + k, none⟩ = some u → E2.rd (g.bx T).1 ((g.bx T).2 + k) u) {H' : Heap} {g' : Gh} : CRel P E2 H' g' (frzSl H T j n e) v := by
  obtain ⟨_, _, ⟨h1, h2⟩, hv⟩ := hx
  simp only [frzOkC] at hok
  split at hok
  · rename_i cs hT
    obtain ⟨h3, h4⟩ := hok
    have hv := hv (by simp [hT, Ent.live])
    obtain ⟨cur, e0, hw, _, hc⟩ := h.box T cs hT
    simp only [frzSl, hT]
    have hlen : (((cs.drop j).take n).map fun c => [VV.pt (fun _ => .dead) c]).length = n := by simp; omega
    refine ⟨fun _ => v, rfl, fun p e' rows' hp => ?_⟩
    have hcell : ∀ (i : Nat) (r : List PT), (((cs.drop j).take n).map fun c => [VV.pt (fun _ => .dead) c])[i]? = some r → ∃ x, cs[j + i]? = some x ∧ r = [VV.pt (fun _ => .dead) x] ∧ oneS x = true := fun i r hr => by
      simp only [List.getElem?_map, Option.map_eq_some_iff] at hr
      obtain ⟨x, hx, rfl⟩ := hr
      have hm := h4 x (List.mem_of_getElem? hx)
      rw [List.getElem?_take] at hx
      split at hx
      · rw [List.getElem?_drop] at hx; exact ⟨x, hx, rfl, hm⟩
      · cases hx
    cases p with
    | nil =>
      simp only [At, Option.some.injEq, Prod.mk.injEq] at hp
      obtain ⟨rfl, rfl⟩ := hp
      refine ⟨_, n, by rw [hlen]; exact hv, by rw [hlen]; exact Nat.le_refl _, h2, .inr ⟨_, _, rfl, fun i r hr => ?_⟩⟩
      obtain ⟨x, hx, rfl, hm⟩ := hcell i r hr
      refine ⟨by simp [h1], fun k c hk => ?_⟩
      match k with
      | 0 =>
        simp only [List.getElem?_cons_zero, Option.some.injEq] at hk
        subst hk
        obtain ⟨_, _, u, hu, hr⟩ := hc (j + i) x hx
        refine ⟨u, ?_, scal_pt hm hr _⟩
        rw [h1, Nat.mul_one, Nat.add_zero, Nat.add_assoc]
        exact hrd cs hT _ u (List.getElem?_eq_some_iff.1 hx).1 (cell_of_heap hw hu)
      | k + 1 => simp at hk
    | cons ij q =>
      obtain ⟨i, k⟩ := ij
      exfalso
      simp only [At] at hp
      cases hr : (((cs.drop j).take n).map fun c => [VV.pt (fun _ => .dead) c])[i]? with
      | none => rw [hr] at hp; simp at hp
      | some r =>
        obtain ⟨x, hx, rfl, hm⟩ := hcell i r hr
        rw [hr] at hp
        match k with
        | 0 =>
          simp only [Option.getD_some, List.getElem?_cons_zero, Option.bind_some] at hp
          cases x <;> first | (cases q with | nil => simp [VV.pt, At] at hp | cons a b => simp [VV.pt, At] at hp) | cases hm
        | k + 1 => simp at hp
  · exact hok.elim
theorem frzC_rel (h : HRel P E g H w) {x : VV} {u : Value} (hx : CRel P E H g x u) (hok : frzOkC H x) : CRel P (botEnv w) (fun _ => .dead) Gh.nil (frzC H x) u := by
  cases x with
  | nl e =>
    have hx : u = .slice none 0 0 := hx
    subst hx
    exact rd_nil
  | rf T n =>
    simp only [frzOkC] at hok
    split at hok
    · rename_i e rows hT
      obtain ⟨h1, h2⟩ := hok
      obtain ⟨_, _, hv⟩ := hx
      have hv := hv (by simp [hT, Ent.isRoot])
      simp only [frzC, hT]
      rw [hv]
      exact rd_root h hT h2 h1
    · exact hok.elim
  | fr e rows => exact rd_frame (x := .list e rows) h.frm hx
  | clo f caps =>
    obtain ⟨cs, h1, h2, h3⟩ := hx
    refine ⟨cs, h1, by simpa using h2, fun j c u hc hu => ?_⟩
    simp only [List.getElem?_map, Option.map_eq_some_iff] at hc
    obtain ⟨c0, hc0, rfl⟩ := hc
    have hr := h3 j c0 u hc0 hu
    have ho := hok c0 (List.mem_of_getElem? hc0)
    cases c0 <;> try exact ho.elim
    case bp T j => exact box_frame h hr ho
    case fp row => exact fp_frame h.frm hr
  | bp T j =>
    have := box_frame (H' := fun _ => .dead) (g' := Gh.nil) h (T := T) (j := j) hx hok
    simp only [frzC, frzBox] at this ⊢
    split at this
    · exact this
    · exact this.elim
  | fp row => exact fp_frame h.frm (g := g) (H := H) (H' := fun _ => .dead) (g' := Gh.nil) hx
  | bs T j n e =>
    refine bs_frame h hx hok fun cs hT k u hk hu => ?_
    obtain ⟨x, hx⟩ : ∃ x, cs[k]? = some x := ⟨_, List.getElem?_eq_getElem hk⟩
    obtain ⟨cur, e0, hw, _, _⟩ := h.box T cs hT
    exact ⟨(Array.getElem?_eq_some_iff.1 hw).1, fun h => h, hu⟩
  | np => exact hok.elim
  | agg => exact hok.elim
  | tup => exact hok.elim
  | _ => exact hx

theorem frz_rel (h : HRel P E g H w) {x : VV} {u : Value} (hx : VRel P E H g x u) (hok : frzOk H x) : ARel P (botEnv w) (fun _ => .dead) Gh.nil (frzA H x) u := by
  by_cases ha : ∃ vs, x = .agg vs
  · obtain ⟨vs, rfl⟩ := ha
    obtain ⟨cs, h1, h2, h3⟩ := hx
    refine ⟨cs, h1, by simpa using h2, fun j c u hc hu => ?_⟩
    simp only [List.getElem?_map, Option.map_eq_some_iff] at hc
    obtain ⟨c0, hc0, rfl⟩ := hc
    exact frzC_rel h (h3 j c0 u hc0 hu) (hok c0 (List.mem_of_getElem? hc0))
  · have hne : ∀ vs, x ≠ .agg vs := fun vs hh => ha ⟨vs, hh⟩
    have hnt : ∀ vs, x ≠ .tup vs := fun vs hh => by subst hh; exact hok
    rw [vrel_eq hnt, arel_eq hne] at hx
    have h1 : frzA H x = frzC H x := by cases x <;> first | rfl | exact absurd rfl (hne _)
    have h2 : frzOkC H x := by cases x <;> first | exact hok | exact absurd rfl (hne _)
    rw [h1]
    exact arel_of_crel (frzC_rel h hx h2)

/-! ### What comes back -/
def addH (n : Nat) (l : List (TypeId × List (List PT))) (H : Heap) : Heap :=
  match l with
  | [] => H
  | (e, rows) :: l => addH (n + 1) l (updH n (.root e rows) H)

theorem addH_eq : ∀ (l : List (TypeId × List (List PT))) (n : Nat) (H : Heap) (T : Nat), addH n l H T = if n ≤ T ∧ T < n + l.length then Hp l (T - n) else H T
  | [], n, H, T => by simp [addH]; omega
  | (e, rows) :: l, n, H, T => by
    simp only [addH]
    rw [addH_eq l (n + 1) (updH n (.root e rows) H) T]
    by_cases h1 : T = n
    · subst h1
      rw [if_neg (by omega), if_pos (by simp), updH_same]
      simp [Hp]
    · rw [updH_ne _ _ h1]
      by_cases h2 : n ≤ T ∧ T < n + (l.length + 1)
      · rw [if_pos (by omega), if_pos (by simpa using h2)]
        obtain ⟨k, rfl⟩ : ∃ k, T = n + 1 + k := ⟨T - (n + 1), by omega⟩
        rw [show n + 1 + k - (n + 1) = k by omega, show n + 1 + k - n = k + 1 by omega]
        simp [Hp]
      · rw [if_neg (by omega), if_neg (by simpa using h2)]

def Gh.imp (g g' : Gh) (n k sz : Nat) : Gh :=
  { hd := fun T p => if n ≤ T ∧ T < n + k then g'.hd (T - n) p else g.hd T p
    bx := g.bx
    own := fun b => if b < sz then g.own b else (g'.own b).map fun x => (n + x.1, x.2)
    ob := g.ob
    sn := fun T => if n ≤ T ∧ T < n + k then g'.sn (T - n) else g.sn T }

theorem imp_crel {l : List (TypeId × List (List PT))} {n sz : Nat} (hk : ∀ T, l.length ≤ T → g'.sn T = false) {x : VV} {v : Value} {E' : Env} (ho : outC x = true) (h : CRel P E' (Hp l) g' x v) :
    CRel P E (addH n l H) (g.imp g' n l.length sz) (shC n x) v := by
  cases x <;> first | exact h | (simp [outC] at ho; done) | skip
  case rf T m =>
    obtain ⟨h1, h2, h3⟩ := h
    have hlt : T < l.length := by
      rcases Nat.lt_or_ge T l.length with hh | hh
      · exact hh
      · rw [hk T hh] at h1; cases h1
    have hc : n ≤ n + T ∧ n + T < n + l.length := by omega
    refine ⟨by simp only [Gh.imp, if_pos hc, Nat.add_sub_cancel_left]; exact h1, h2, fun hr => ?_⟩
    rw [addH_eq, if_pos hc, Nat.add_sub_cancel_left] at hr
    have := h3 hr
    simp only [Gh.imp, if_pos hc, Nat.add_sub_cancel_left]
    exact this

theorem outA_spec {x : VV} (h : outA x = true) : (∃ vs, x = .agg vs ∧ ∀ c ∈ vs, outC c = true) ∨ ((∀ vs, x ≠ .agg vs) ∧ outC x = true) := by
  cases x with
  | agg vs => exact .inl ⟨vs, rfl, by simpa [outA] using h⟩
  | _ => exact .inr ⟨fun _ hh => (by cases hh), h⟩

theorem imp_arel {l : List (TypeId × List (List PT))} {n sz : Nat} (hk : ∀ T, l.length ≤ T → g'.sn T = false) {x : VV} {v : Value} {E' : Env} (ho : outA x = true) (h : ARel P E' (Hp l) g' x v) :
    ARel P E (addH n l H) (g.imp g' n l.length sz) (shA n x) v := by
  rcases outA_spec ho with ⟨vs, rfl, hvs⟩ | ⟨hne, hoc⟩
  · obtain ⟨cs, h1, h2, h3⟩ := h
    refine ⟨cs, h1, by simpa using h2, fun j c u hc hu => ?_⟩
    simp only [List.getElem?_map, Option.map_eq_some_iff] at hc
    obtain ⟨c0, hc0, rfl⟩ := hc
    exact imp_crel hk (hvs c0 (List.mem_of_getElem? hc0)) (h3 j c0 u hc0 hu)
  · rw [arel_eq hne] at h
    have : shA n x = shC n x := by cases x <;> first | rfl | exact absurd rfl (hne _)
    rw [this]
    exact arel_of_crel (imp_crel hk hoc h)

theorem imp_vrel {l : List (TypeId × List (List PT))} {n sz : Nat} (hk : ∀ T, l.length ≤ T → g'.sn T = false) {x : VV} {v : Value} {E' : Env} (ho : outV x = true) (h : VRel P E' (Hp l) g' x v) :
    VRel P E (addH n l H) (g.imp g' n l.length sz) (shV n x) v := by
  by_cases ht : ∃ vs, x = .tup vs
  · obtain ⟨vs, rfl⟩ := ht
    obtain ⟨cs, h1, h2, h3⟩ := h
    refine ⟨cs, h1, by simpa using h2, fun j c u hc hu => ?_⟩
    simp only [List.getElem?_map, Option.map_eq_some_iff] at hc
    obtain ⟨c0, hc0, rfl⟩ := hc
    have ho' : outA c0 = true := by
      simp only [outV, List.all_eq_true] at ho
      exact ho c0 (List.mem_of_getElem? hc0)
    exact imp_arel hk ho' (h3 j c0 u hc0 hu)
  · have hne : ∀ vs, x ≠ .tup vs := fun vs hh => ht ⟨vs, hh⟩
    rw [vrel_eq hne] at h
    have h1 : shV n x = shA n x := by cases x <;> first | rfl | exact absurd rfl (hne _)
    have h2 : outA x = true := by cases x <;> first | exact ho | exact absurd rfl (hne _)
    rw [h1]
    exact vrel_of_arel (imp_arel hk h2 h)

theorem hrel_import (h : HRel P E g H w) {l : List (TypeId × List (List PT))} {n : Nat} (hn : ∀ T, n ≤ T → T < n + l.length → g.sn T = false)
    (h' : HRel P (botEnv w) g' (Hp l) w') (hp : ∀ x ∈ l, PurRows x.2) :
    HRel P E (g.imp g' n l.length w.heap.size) (addH n l H) w' ∧ HLe g H (g.imp g' n l.length w.heap.size) (addH n l H) := by
  have hsn : ∀ T, g.sn T = true → ¬ (n ≤ T ∧ T < n + l.length) := fun T hT hh => by rw [hn T hh.1 hh.2] at hT; cases hT
  have hle : HLe g H (g.imp g' n l.length w.heap.size) (addH n l H) := by
    refine ⟨fun T hT => ?_, fun T e rows hT hh => ?_, fun T hT hh => ?_, fun T hT _ => ?_, fun T hT _ => rfl⟩
    · simp only [Gh.imp, if_neg (hsn T hT)]; exact hT
    · rw [addH_eq, if_neg (hsn T hT)] at hh; exact ⟨rows, hh⟩
    · rwa [addH_eq, if_neg (hsn T hT)] at hh
    · simp only [Gh.imp, if_neg (hsn T hT)]
  have hfr : Frm E w' := h.frm.step h'.frm.os h'.frm.tape h'.frm.output h'.frm.size fun b hb => .inl (frm_bot h'.frm (Nat.lt_of_lt_of_le hb h.frm.size))
  refine ⟨⟨hfr, fun T e rows hT p e2 rows2 hat => ?_, fun T cs hT => ?_, fun T hT => ?_⟩, hle⟩
  · rw [addH_eq] at hT
    by_cases c : n ≤ T ∧ T < n + l.length
    · rw [if_pos c] at hT
      have hpur : PurRows rows := by
        simp only [Hp] at hT
        split at hT
        · rename_i e0 rows0 hl
          injection hT with e1 e2
          subst e2
          exact hp _ (List.mem_of_getElem? hl)
        · cases hT
      have hpur2 : PurRows rows2 := pur_at p (.list e rows) (.list _ _ hpur) e2 rows2 hat
      have hhd : ∀ q, (g.imp g' n l.length w.heap.size).hd T q = g'.hd (T - n) q := fun q => by simp only [Gh.imp, if_pos c]
      rcases h'.node (T - n) e rows hT p e2 rows2 hat with ⟨h1, h2⟩ | ⟨b, cap, cur, h1, h2, h3, h4, h5, h6, h7, h8⟩
      · exact .inl ⟨by rw [hhd]; exact h1, h2⟩
      · have hb : w.heap.size ≤ b := by
          rcases h3 with h3 | h3
          · exact h3
          · exact (h3 0).elim
        refine .inr ⟨b, cap, cur, by rw [hhd]; exact h1, ?_, .inl (Nat.le_trans h.frm.size hb), h4, h5, h6, h7, fun i r hr => ?_⟩
        · simp only [Gh.imp, if_neg (Nat.not_lt.2 hb), h2, Option.map_some]
          rw [Nat.add_sub_cancel' c.1]
        · obtain ⟨h9, h10⟩ := h8 i r hr
          refine ⟨h9, fun j x hx => ?_⟩
          obtain ⟨u, h11, h12⟩ := h10 j x hx
          refine ⟨u, h11, ?_⟩
          rw [hhd]
          have := hpur2 r (List.mem_of_getElem? hr) x (List.mem_of_getElem? hx)
          cases this <;> exact h12
    · rw [if_neg c] at hT
      refine node_mono hle (h.node T e rows hT p e2 rows2 hat) (fun q => by simp only [Gh.imp, if_neg c]) (fun b hb ho => ?_) (fun b hb _ => frm_bot h'.frm hb)
      simp only [Gh.imp, if_pos hb]; exact ho
  · rw [addH_eq] at hT
    by_cases c : n ≤ T ∧ T < n + l.length
    · rw [if_pos c] at hT
      simp only [Hp] at hT
      split at hT <;> cases hT
    · rw [if_neg c] at hT
      have hb := h.box T cs hT
      have hlt : (g.bx T).1 < w.heap.size := by
        obtain ⟨cur, e1, h1, _⟩ := hb
        exact (Array.getElem?_eq_some_iff.1 h1).1
      exact box_mono hle hb rfl (fun hh => by simp only [Gh.imp, if_pos hlt]; exact hh) (fun _ _ hh => hh) (fun cur e he => ⟨cur, by rw [frm_bot h'.frm hlt]; exact he, fun _ _ _ => rfl⟩)
  · rw [addH_eq] at hT
    by_cases c : n ≤ T ∧ T < n + l.length
    · rw [if_pos c] at hT
      simp only [Gh.imp, if_pos c]
      exact h'.seen _ hT
    · rw [if_neg c] at hT
      simp only [Gh.imp, if_neg c]
      exact h.seen T hT

/-- The state behind a call. -/
def St.imp (s : St) (l : List (TypeId × List (List PT))) : St := { s with H := addH s.nx l s.H, nx := s.nx + l.length }

theorem rel_import (h : Rel P E g s a w) {l : List (TypeId × List (List PT))} (hr : s.room l.length = true) (h' : HRel P (botEnv w) g' (Hp l) w') (hk : ∀ T, l.length ≤ T → g'.sn T = false) (hp : ∀ x ∈ l, PurRows x.2)
    {v : VV} {val : Value} (ho : outV v = true) (hv : VRel P (botEnv w) (Hp l) g' v val) :
    ∃ g2, Rel P E g2 (s.imp l) a w' ∧ HLe g s.H g2 (s.imp l).H ∧ (∀ T, (s.nx ≤ T → s.nx + l.length ≤ T) → g2.sn T = g.sn T) ∧ VRel P E (s.imp l).H g2 (shV s.nx v) val := by
  obtain ⟨h1, h2⟩ := hrel_import h.heap (n := s.nx) (fun T ha hb => fresh_at h hr ha hb) h' hp
  refine ⟨_, rel_step (n' := s.nx + l.length) h h2 h1 (fun T hT => ?_), h2, fun T hT => ?_, imp_vrel hk ho hv⟩
  rotate_left
  · have : ¬ (s.nx ≤ T ∧ T < s.nx + l.length) := by omega
    simp only [Gh.imp, if_neg this]
  obtain ⟨f1, f2⟩ := fresh_on (Nat.le_add_right _ _) hT
  have : ¬ (s.nx ≤ T ∧ T < s.nx + l.length) := by omega
  simp only [Gh.imp, if_neg this]
  exact h.fresh T f1
end
end Go.Proofs.Ytchkbgekmoileaa

/- The value-level engine, fifteenth part, b: a slice that lies in a row of another one becomes part of its tree. -/
namespace Go.Proofs.Ytchkbgekmoileaa
open Go Go.RowKit
set_option linter.unusedVariables false
set_option linter.unusedSimpArgs false

/-- The slice that the cell (i, j) of T refers to, taken into T's tree. -/
def mergeH (H : Heap) (T i j : Nat) : Option Heap :=
  match H T with
  | .root e rows => match rows[i]? with
    | some r => match r[j]? with
      | some (.ref T' n) => match H T' with
        | .root e' rows' => if n ≤ rows'.length ∧ T' ≠ T then some (updH T (.root e (rows.set i (r.set j (.list e' (rows'.take n))))) (updH T' .dead H)) else none
        | _ => none
      | _ => none
    | _ => none
  | _ => none
def merges : List (Nat × Nat × Nat) → Heap → Option Heap
  | [], H => some H
  | (T, i, j) :: ms, H => match mergeH H T i j with
    | some H' => merges ms H'
    | none => none

def Gh.merge (g : Gh) (T i j T' n : Nat) : Gh :=
  { g with
    hd := fun X p => match p with
      | (a, b) :: q => if X = T ∧ a = i ∧ b = j then (if q = [] then cutv n (g.hd T' []) else g.hd T' q) else g.hd X ((a, b) :: q)
      | [] => g.hd X []
    own := fun b => match g.own b with
      | some (X, p) => if X = T' then some (T, (i, j) :: p) else some (X, p)
      | none => none }

section
variable {P : Program} {E : Env} {g g' : Gh} {H H' : Heap} {w w' : World}

/-- A node, under another name. -/
theorem node_move (h : HLe g H g' H') {X Y : Nat} {p q : Path} {e : TypeId} {rows : List (List PT)} (hn : NodeOK P E H g w X p e rows) (n : Nat) (hln : n ≤ rows.length) (h1 : g'.hd Y q = cutv n (g.hd X p)) (h2 : ∀ x, g'.hd Y (q ++ [x]) = g.hd X (p ++ [x]))
    (h3 : ∀ b, g.own b = some (X, p) → g'.own b = some (Y, q)) : NodeOK P E H' g' w Y q e (rows.take n) := by
  have hl : (rows.take n).length = n := by simp; omega
  rcases hn with ⟨k1, k2⟩ | ⟨b, cap, cur, k1, k2, k3, k4, k5, k6, k7, k8⟩
  · subst k2
    exact .inl ⟨by rw [h1, k1]; have : n = 0 := by simpa using hln
                   subst this; rfl, by simp⟩
  · refine .inr ⟨b, cap, cur, by rw [h1, k1, hl]; rfl, h3 b k2, k3, k4, by omega, k6, k7, fun i r hr => ?_⟩
    rw [List.getElem?_take] at hr
    split at hr
    · obtain ⟨m1, m2⟩ := k8 i r hr
      refine ⟨m1, fun j c hc => ?_⟩
      obtain ⟨u, m3, m4⟩ := m2 j c hc
      refine ⟨u, m3, ?_⟩
      rw [h2]
      exact ocell_mono h m4
    · cases hr

theorem At_put {e : TypeId} {rows : List (List PT)} {i j : Nat} {r : List PT} (hr : rows[i]? = some r) (hj : j < r.length) {c : PT} {a b : Nat} {p : Path} :
    At ((a, b) :: p) (.list e (rows.set i (r.set j c))) = if a = i ∧ b = j then At p c else At ((a, b) :: p) (.list e rows) := by
  have hlt : i < rows.length := (List.getElem?_eq_some_iff.1 hr).1
  simp only [At]
  by_cases ha : a = i
  · subst ha
    rw [List.getElem?_set_self hlt, hr]
    simp only [Option.getD_some]
    by_cases hb : b = j
    · subst hb
      simp [hj]
    · rw [List.getElem?_set_ne (Ne.symm hb)]
      simp [hb]
  · rw [List.getElem?_set_ne (Ne.symm ha)]
    simp [ha]

theorem At_take {e : TypeId} {rows : List (List PT)} {n : Nat} {x : Nat × Nat} {p : Path} {z : TypeId × List (List PT)} (h : At (x :: p) (.list e (rows.take n)) = some z) : At (x :: p) (.list e rows) = some z := by
  obtain ⟨a, b⟩ := x
  simp only [At] at h ⊢
  rw [List.getElem?_take] at h
  split at h
  · exact h
  · simp at h

theorem hrel_merge (h : HRel P E g H w) {T i j T' n : Nat} {e e' : TypeId} {rows rows' : List (List PT)} {r : List PT} (hT : H T = .root e rows) (hr : rows[i]? = some r) (hc : r[j]? = some (.ref T' n)) (hT' : H T' = .root e' rows') (hn : n ≤ rows'.length) (hne : T' ≠ T) :
    HRel P E (g.merge T i j T' n) (updH T (.root e (rows.set i (r.set j (.list e' (rows'.take n))))) (updH T' .dead H)) w ∧
      HLe g H (g.merge T i j T' n) (updH T (.root e (rows.set i (r.set j (.list e' (rows'.take n))))) (updH T' .dead H)) := by
  have hj : j < r.length := (List.getElem?_eq_some_iff.1 hc).1
  have hlt : i < rows.length := (List.getElem?_eq_some_iff.1 hr).1
  have hle : HLe g H (g.merge T i j T' n) (updH T (.root e (rows.set i (r.set j (.list e' (rows'.take n))))) (updH T' .dead H)) := by
    refine ⟨fun X hX => hX, fun X e2 rows2 _ hX => ?_, fun X _ hX => ?_, fun X _ _ => rfl, fun X _ _ => rfl⟩
    · by_cases c1 : X = T
      · subst c1
        rw [updH_same] at hX
        injection hX with e1 _
        subst e1
        exact ⟨_, hT⟩
      · rw [updH_ne _ _ c1] at hX
        by_cases c2 : X = T'
        · subst c2; rw [updH_same] at hX; cases hX
        · rw [updH_ne _ _ c2] at hX; exact ⟨_, hX⟩
    · by_cases c1 : X = T
      · subst c1; simp [hT, Ent.live]
      · rw [updH_ne _ _ c1] at hX
        by_cases c2 : X = T'
        · subst c2; rw [updH_same] at hX; cases hX
        · rwa [updH_ne _ _ c2] at hX
  have hown : ∀ (X : Nat) (p : Path) (b : Nat), X ≠ T' → g.own b = some (X, p) → (g.merge T i j T' n).own b = some (X, p) := fun X p b hX hb => by
    simp only [Gh.merge, hb, if_neg hX]
  have hown' : ∀ (p : Path) (b : Nat), g.own b = some (T', p) → (g.merge T i j T' n).own b = some (T, (i, j) :: p) := fun p b hb => by
    simp only [Gh.merge, hb, if_true]
  refine ⟨⟨h.frm, fun X e2 rows2 hX p e3 rows3 hp => ?_, fun X cs hX => ?_, fun X hX => ?_⟩, hle⟩
  · by_cases c1 : X = T
    · subst c1
      rw [updH_same] at hX
      injection hX with e1 e4
      subst e1
      subst e4
      cases p with
      | nil =>
        simp only [At, Option.some.injEq, Prod.mk.injEq] at hp
        obtain ⟨rfl, rfl⟩ := hp
        rcases h.node X e rows hT [] e rows rfl with ⟨_, k2⟩ | ⟨b, cap, cur, k1, k2, k3, k4, k5, k6, k7, k8⟩
        · subst k2; simp at hlt
        · refine .inr ⟨b, cap, cur, by simpa [Gh.merge] using k1, hown X [] b (Ne.symm hne) k2, k3, k4, by simpa using k5, k6, k7, fun a ra hra => ?_⟩
          by_cases ha : a = i
          · subst ha
            rw [List.getElem?_set_self hlt] at hra
            injection hra with hra
            subst hra
            obtain ⟨m1, m2⟩ := k8 a r hr
            refine ⟨by simpa using m1, fun k c hk => ?_⟩
            by_cases hkj : k = j
            · subst hkj
              rw [List.getElem?_set_self hj] at hk
              injection hk with hk
              subst hk
              obtain ⟨u, m3, m4⟩ := m2 k _ hc
              refine ⟨u, m3, ?_⟩
              obtain ⟨_, _, m5⟩ := m4
              have := m5 (by simp [hT', Ent.isRoot])
              simp [ocell, Gh.merge, this]
            · rw [List.getElem?_set_ne (Ne.symm hkj)] at hk
              obtain ⟨u, m3, m4⟩ := m2 k c hk
              refine ⟨u, m3, ?_⟩
              have : (g.merge X a j T' n).hd X ([] ++ [(a, k)]) = g.hd X ([] ++ [(a, k)]) := by simp [Gh.merge, hkj]
              rw [this]
              exact ocell_mono hle m4
          · rw [List.getElem?_set_ne (Ne.symm ha)] at hra
            obtain ⟨m1, m2⟩ := k8 a ra hra
            refine ⟨m1, fun k c hk => ?_⟩
            obtain ⟨u, m3, m4⟩ := m2 k c hk
            refine ⟨u, m3, ?_⟩
            have : (g.merge X i j T' n).hd X ([] ++ [(a, k)]) = g.hd X ([] ++ [(a, k)]) := by simp [Gh.merge, ha]
            rw [this]
            exact ocell_mono hle m4
      | cons x q =>
        obtain ⟨a, b⟩ := x
        rw [At_put hr hj] at hp
        by_cases hab : a = i ∧ b = j
        · rw [if_pos hab] at hp
          obtain ⟨rfl, rfl⟩ := hab
          cases q with
          | nil =>
            simp only [At, Option.some.injEq, Prod.mk.injEq] at hp
            obtain ⟨rfl, rfl⟩ := hp
            exact node_move hle (h.node T' e' rows' hT' [] e' rows' rfl) n hn (by simp [Gh.merge]) (fun x => by simp [Gh.merge]) (fun b hb => hown' [] b hb)
          | cons y q =>
            have hk := h.node T' e' rows' hT' _ e3 rows3 (At_take hp)
            have hcut : cutv rows3.length (g.hd T' (y :: q)) = g.hd T' (y :: q) := by
              rcases hk with ⟨k1, k2⟩ | ⟨b, cap, cur, k1, _⟩
              · rw [k1, k2]; rfl
              · rw [k1]; rfl
            have := node_move (g' := g.merge X a b T' n) (Y := X) (q := (a, b) :: y :: q) hle hk rows3.length (Nat.le_refl _) (by rw [hcut]; simp [Gh.merge]) (fun x => by simp [Gh.merge]) (fun b hb => hown' _ b hb)
            rwa [List.take_length] at this
        · rw [if_neg hab] at hp
          have hk := h.node X e rows hT _ e3 rows3 hp
          have hcut : cutv rows3.length (g.hd X ((a, b) :: q)) = g.hd X ((a, b) :: q) := by
            rcases hk with ⟨k1, k2⟩ | ⟨b, cap, cur, k1, _⟩
            · rw [k1, k2]; rfl
            · rw [k1]; rfl
          have := node_move (g' := g.merge X i j T' n) (Y := X) (q := (a, b) :: q) hle hk rows3.length (Nat.le_refl _) (by rw [hcut]; simp [Gh.merge, hab]) (fun x => by simp [Gh.merge, hab]) (fun b hb => hown X _ b (Ne.symm hne) hb)
          rwa [List.take_length] at this
    · rw [updH_ne _ _ c1] at hX
      have c2 : X ≠ T' := by rintro rfl; rw [updH_same] at hX; cases hX
      rw [updH_ne _ _ c2] at hX
      refine node_mono hle (h.node X e2 rows2 hX p e3 rows3 hp) (fun q => ?_) (fun b _ hb => hown X p b c2 hb) (fun _ _ _ => rfl)
      cases q with
      | nil => rfl
      | cons x q => obtain ⟨a, b⟩ := x; simp [Gh.merge, c1]
  · have c1 : X ≠ T := by rintro rfl; rw [updH_same] at hX; cases hX
    rw [updH_ne _ _ c1] at hX
    have c2 : X ≠ T' := by rintro rfl; rw [updH_same] at hX; cases hX
    rw [updH_ne _ _ c2] at hX
    refine box_mono hle (h.box X cs hX) rfl (fun hh => by simp only [Gh.merge, hh]) (fun _ _ hh => hh) (fun cur e he => ⟨cur, he, fun _ _ _ => rfl⟩)
  · by_cases c1 : X = T
    · subst c1; exact h.seen X (by simp [hT, Ent.live])
    · rw [updH_ne _ _ c1] at hX
      by_cases c2 : X = T'
      · subst c2; rw [updH_same] at hX; cases hX
      · rw [updH_ne _ _ c2] at hX; exact h.seen X hX

theorem hrel_merges : ∀ (ms : List (Nat × Nat × Nat)) (g : Gh) (H H' : Heap), merges ms H = some H' → HRel P E g H w → ∃ g', HRel P E g' H' w ∧ HLe g H g' H' ∧ ∀ T, g'.sn T = g.sn T
  | [], g, H, H', hm, h => by
    simp only [merges, Option.some.injEq] at hm
    subst hm
    exact ⟨g, h, HLe.refl _ _, fun _ => rfl⟩
  | (T, i, j) :: ms, g, H, H', hm, h => by
    simp only [merges] at hm
    split at hm
    · rename_i H1 h1
      have step : ∃ g1, HRel P E g1 H1 w ∧ HLe g H g1 H1 ∧ ∀ T, g1.sn T = g.sn T := by
        unfold mergeH at h1
        split at h1
        · rename_i e rows hT
          split at h1
          · rename_i r hr
            split at h1
            · rename_i T' n hc
              split at h1
              · rename_i e' rows' hT'
                split at h1
                · rename_i hh
                  simp only [Option.some.injEq] at h1
                  subst h1
                  obtain ⟨k1, k2⟩ := hrel_merge h hT hr hc hT' hh.1 hh.2
                  exact ⟨_, k1, k2, fun _ => rfl⟩
                · cases h1
              · cases h1
            · cases h1
          · cases h1
        · cases h1
      obtain ⟨g1, k1, k2, k3⟩ := step
      obtain ⟨g2, k4, k5, k6⟩ := hrel_merges ms g1 H1 H' hm k1
      exact ⟨g2, k4, k2.trans k5, fun T => (k6 T).trans (k3 T)⟩
    · cases hm

theorem rel_merges {s : St} {a : Act} {ms : List (Nat × Nat × Nat)} (h : Rel P E g s a w) (hm : merges ms s.H = some H') : ∃ g', Rel P E g' { s with H := H' } a w ∧ HLe g s.H g' H' := by
  obtain ⟨g', h1, h2, h3⟩ := hrel_merges ms g s.H H' hm h.heap
  exact ⟨g', rel_step (n' := s.nx) h h2 h1 (fun T hT => by rw [h3]; exact h.fresh T hT), h2⟩
end
end Go.Proofs.Ytchkbgekmoileaa

/- The value-level engine, fifteenth part, c: calls of functions that turn what they are handed. -/
namespace Go.Proofs.Ytchkbgekmoileaa
open Go Go.RowKit
set_option linter.unusedVariables false
set_option linter.unusedSimpArgs false

def HpE (l : List Ent) : Heap := fun T => (l[T]?).getD .dead

/-- The place of a token among those that are handed over. -/
def idx : List Nat → Nat → Option Nat
  | [], _ => none
  | X :: σ, T => if T = X then some 0 else (idx σ T).map (· + 1)

theorem idx_some : ∀ {σ : List Nat} {T k : Nat}, idx σ T = some k → σ[k]? = some T
  | [], T, k, h => by cases h
  | X :: σ, T, k, h => by
    simp only [idx] at h
    split at h
    · rename_i e
      injection h with h
      subst h
      subst e
      rfl
    · cases hi : idx σ T with
      | none => rw [hi] at h; cases h
      | some m =>
        rw [hi] at h
        simp only [Option.map_some, Option.some.injEq] at h
        subst h
        rw [List.getElem?_cons_succ]
        exact idx_some hi
theorem idx_get : ∀ {σ : List Nat} (hn : σ.Nodup) {T k : Nat}, σ[k]? = some T → idx σ T = some k
  | [], _, T, k, h => by simp at h
  | X :: σ, hn, T, 0, h => by
    simp only [List.getElem?_cons_zero, Option.some.injEq] at h
    subst h
    simp [idx]
  | X :: σ, hn, T, k + 1, h => by
    simp only [List.getElem?_cons_succ] at h
    rw [List.nodup_cons] at hn
    have hne : T ≠ X := fun hh => hn.1 (hh ▸ List.mem_of_getElem? h)
    simp only [idx, if_neg hne, idx_get hn.2 h, Option.map_some]
theorem idx_none : ∀ {σ : List Nat} {T : Nat}, idx σ T = none → T ∉ σ
  | [], T, h => by simp
  | X :: σ, T, h => by
    simp only [idx] at h
    split at h
    · cases h
    · rename_i e
      cases hi : idx σ T with
      | some m => rw [hi] at h; cases h
      | none =>
        have := idx_none hi
        simp [e, this]
theorem idx_mem {σ : List Nat} {T : Nat} (h : T ∈ σ) : ∃ k, idx σ T = some k := by
  cases hi : idx σ T with
  | some k => exact ⟨k, rfl⟩
  | none => exact absurd h (idx_none hi)
theorem idx_notMem {σ : List Nat} {T : Nat} (h : T ∉ σ) : idx σ T = none := by
  cases hi : idx σ T with
  | none => rfl
  | some k => exact absurd (List.mem_of_getElem? (idx_some hi)) h

def hid (σ : List Nat) : VV → Bool
  | .rf T _ => (idx σ T).isNone
  | _ => true
/-- A value as such a call is handed it. -/
def viewC (σ : List Nat) (H : Heap) (x : VV) : VV :=
  match x with
  | .rf T n => match idx σ T with
    | some k => .rf k n
    | none => frzC H (.rf T n)
  | .bp T j => match idx σ T with
    | some k => .bp k j
    | none => frzBox H T j
  | .nl e => .nl e
  | x => frzC H x
def viewA (σ : List Nat) (H : Heap) : VV → VV
  | .agg vs => .agg (vs.map (viewC σ H))
  | x => viewC σ H x
def capHid (σ : List Nat) (H : Heap) : VV → Prop
  | .bp T j => idx σ T = none ∧ (match H T with
    | .box cs => (cs.drop j).all (hid σ) = true
    | _ => True)
  | _ => True
def viewOkC (σ : List Nat) (H : Heap) (x : VV) : Prop :=
  match x with
  | .rf T n => match idx σ T with
    | some _ => True
    | none => frzOkC H (.rf T n)
  | .bp T j => match idx σ T with
    | some _ => True
    | none => frzOkC H (.bp T j) ∧ (match H T with
      | .box cs => (cs.drop j).all (hid σ) = true
      | _ => True)
  | .bs T j n e => idx σ T = none ∧ frzOkC H (.bs T j n e)
  | .clo _ caps => ∀ c ∈ caps, capsOk H c ∧ capHid σ H c
  | .np .. | .agg _ | .tup _ => False
  | _ => True
def viewOk (σ : List Nat) (H : Heap) : VV → Prop
  | .agg vs => ∀ x ∈ vs, viewOkC σ H x
  | x => viewOkC σ H x
def viewE (σ : List Nat) (H : Heap) : Ent → Ent
  | .box cs => .box (cs.map (viewC σ H))
  | x => x
def viewOkE (σ : List Nat) (H : Heap) : Ent → Prop
  | .dead => False
  | .root _ rows => PurRows rows
  | .box cs => ∀ x ∈ cs, viewOkC σ H x

def outE : VV → Bool
  | .int _ _ | .bool _ | .str _ | .rf _ _ | .err _ | .any | .nl _ => true
  | _ => false
/-- What comes of what was handed over. -/
def keptOk : Ent → Ent → Prop
  | _, .dead => True
  | .root e _, .root e' rows => e' = e ∧ PurRows rows
  | .box cs, .box cs' => cs'.length = cs.length ∧ cs'.all outE = true
  | _, _ => False
def isFr : VV → Bool
  | .fr _ _ => true
  | _ => false
def outF (fo : Bool) (c : VV) : Bool := outE c || (fo && isFr c)
def keptOkF (fo : Bool) : Ent → Ent → Prop
  | _, .dead => True
  | .root e _, .root e' rows => e' = e ∧ PurRows rows
  | .box cs, .box cs' => cs'.length = cs.length ∧ cs'.all (outF fo) = true
  | _, _ => False
theorem outE_outF {fo : Bool} {c : VV} (h : outE c = true) : outF fo c = true := by simp [outF, h]
theorem keptOkF_of {fo : Bool} {x y : Ent} (h : keptOk x y) : keptOkF fo x y := by
  cases x <;> cases y <;> first | exact h | (exact ⟨h.1, List.all_eq_true.2 fun c hc => outE_outF (List.all_eq_true.1 h.2 c hc)⟩)
def newOk : Ent → Prop
  | .root _ rows => PurRows rows
  | _ => False

/-- What a function gives, and what becomes of what it is handed. -/
structure SatO (P : Program) (f : FuncId) (args : List VV) (I : List Ent) (v : VV) (O : List Ent) : Prop where
  fn : ∃ fn, P.funcs[f]? = some fn ∧ (fn.name == "runtime.NumGoroutine") = false ∧ fn.body.isNone = false
  out : outV v = true
  len : I.length ≤ O.length
  kept : ∀ (k : Nat) (x y : Ent), I[k]? = some x → O[k]? = some y → keptOk x y
  new : ∀ (k : Nat) (y : Ent), I.length ≤ k → O[k]? = some y → newOk y
  run : ∀ (E : Env) (g : Gh) (w : World) (vals : List Value), E.w0 = w → HRel P E g (HpE I) w → (∀ T, I.length ≤ T → g.sn T = false) → vals.length = args.length →
    (∀ (j : Nat) (x : VV) (u : Value), args[j]? = some x → vals[j]? = some u → ARel P E (HpE I) g x u) →
    Calls P f vals.toArray w fun e w' => ∃ val g', e = .returned val ∧ HRel P E g' (HpE O) w' ∧ (∀ T, O.length ≤ T → g'.sn T = false) ∧ HLe g (HpE I) g' (HpE O) ∧ VRel P E (HpE O) g' v val

/-- The cells that such a call may write. -/
def ownR (σ : List Nat) (H : Heap) (g : Gh) (b o : Nat) : Prop :=
  (∃ T ∈ σ, ∃ e rows p e' rows' n c, H T = .root e rows ∧ At p (.list e rows) = some (e', rows') ∧ g.hd T p = .slice (some ⟨b, 0, none⟩) n c) ∨
  ∃ T ∈ σ, ∃ cs j, H T = .box cs ∧ j < cs.length ∧ b = (g.bx T).1 ∧ o = (g.bx T).2 + j
def callEnvG (σ : List Nat) (H : Heap) (g : Gh) (w : World) (hid : Nat → Nat → Prop) (hidOk : ∀ b o, ownR σ H g b o → hid b o) : Env := ⟨w, ownR σ H g, fun _ _ => True, fun _ _ _ _ _ _ => trivial, hid, hidOk⟩
def callEnv (σ : List Nat) (H : Heap) (g : Gh) (w : World) : Env := callEnvG σ H g w (ownR σ H g) fun _ _ h => h
def Gh.call (g : Gh) (σ : List Nat) : Gh :=
  { hd := fun k p => match σ[k]? with
      | some T => g.hd T p
      | none => undef
    bx := fun k => match σ[k]? with
      | some T => g.bx T
      | none => (0, 0)
    own := fun b => match g.own b with
      | some (T, p) => (idx σ T).map fun k => (k, p)
      | none => none
    ob := fun b o => match g.ob b o with
      | some (T, j) => (idx σ T).map fun k => (k, j)
      | none => none
    sn := fun k => decide (k < σ.length) }

section
variable {P : Program} {E : Env} {g g' : Gh} {H : Heap} {s : St} {a : Act} {w w' : World} {ty : Ty} {σ : List Nat}

theorem ownR_cases (h : HRel P E g H w) {b o : Nat} (ho : ownR σ H g b o) :
    (∃ T ∈ σ, ∃ p, g.own b = some (T, p) ∧ (E.w0.heap.size ≤ b ∨ ∀ o, E.own b o) ∧ ∃ cur e, w.heap[b]? = some (.cells cur e (0, 0))) ∨
    ∃ T ∈ σ, ∃ j, g.own b = none ∧ g.ob b o = some (T, j) ∧ (E.w0.heap.size ≤ b ∨ E.own b o) ∧ ∃ cur e, w.heap[b]? = some (.cells cur e (0, 0)) := by
  rcases ho with ⟨T, hT, e, rows, p, e', rows', n, c, h1, h2, h3⟩ | ⟨T, hT, cs, j, h1, h2, rfl, rfl⟩
  · rcases h.node T e rows h1 p e' rows' h2 with ⟨k1, _⟩ | ⟨b', cap, cur, k1, k2, k3, k4, _⟩
    · rw [h3] at k1; cases k1
    · rw [h3] at k1
      injection k1 with k1
      injection k1 with k1
      injection k1 with k1
      subst k1
      exact .inl ⟨T, hT, p, k2, k3, cur, _, k4⟩
  · obtain ⟨cur, e, k1, k2, k3⟩ := h.box T cs h1
    obtain ⟨k4, k5, _⟩ := k3 j cs[j] (List.getElem?_eq_getElem h2)
    exact .inr ⟨T, hT, j, k2, k4, k5, cur, e, k1⟩

theorem nown_rd (h : HRel P E g H w) {b o : Nat} {u : Value} (hr : E.rd b o u) : ¬ ownR σ H g b o := by
  intro ho
  obtain ⟨h1, h2, _⟩ := hr
  rcases ownR_cases h ho with ⟨T, _, p, _, k, _⟩ | ⟨T, _, j, _, _, k, _⟩
  · rcases k with k | k
    · omega
    · exact h2 (E.hidOk _ _ (k o))
  · rcases k with k | k
    · omega
    · exact h2 (E.hidOk _ _ k)

theorem nown_rt (h : HRel P E g H w) {X : Nat} (hX : X ∉ σ) {p : Path} {b : Nat} (hb : g.own b = some (X, p)) (o : Nat) : ¬ ownR σ H g b o := by
  intro ho
  rcases ownR_cases h ho with ⟨T, hT, q, k, _⟩ | ⟨T, hT, j, k, _⟩
  · rw [hb] at k
    injection k with k
    injection k with k _
    exact hX (k ▸ hT)
  · rw [hb] at k; cases k

theorem nown_bx (h : HRel P E g H w) {X : Nat} (hX : X ∉ σ) {b o j : Nat} (h0 : g.own b = none) (hb : g.ob b o = some (X, j)) : ¬ ownR σ H g b o := by
  intro ho
  rcases ownR_cases h ho with ⟨T, hT, q, k, _⟩ | ⟨T, hT, j', _, k, _⟩
  · rw [h0] at k; cases k
  · rw [hb] at k
    injection k with k
    injection k with k _
    exact hX (k ▸ hT)

/-! ### What is handed over reads as it did -/
theorem rdO_frame (h : HRel P E g H w) {x : PT} {v : Value} (hr : Rd P E x v) : Rd P (callEnv σ H g w) x v := by
  cases x <;> try exact hr
  case list e rows =>
    obtain ⟨fh, h0, h1⟩ := hr
    refine ⟨fh, h0, fun p e' rows' hp => ?_⟩
    obtain ⟨A, cap, h2, h3, h4, h5⟩ := h1 p e' rows' hp
    refine ⟨A, cap, h2, h3, h4, ?_⟩
    rcases h5 with h5 | ⟨b, o, h5, h6⟩
    · exact .inl h5
    · refine .inr ⟨b, o, h5, fun i r hr => ?_⟩
      obtain ⟨h7, h8⟩ := h6 i r hr
      refine ⟨h7, fun j c hc => ?_⟩
      obtain ⟨u, h9, h10⟩ := h8 j c hc
      exact ⟨u, ⟨Nat.lt_of_lt_of_le h9.1 h.frm.size, nown_rd h h9, rd_cell h.frm h9⟩, h10⟩

theorem rdO_root (h : HRel P E g H w) {T : Nat} (hσ : T ∉ σ) {e : TypeId} {rows : List (List PT)} (hT : H T = .root e rows) (hp : PurRows rows) {n : Nat} (hn : n ≤ rows.length) : Rd P (callEnv σ H g w) (.list e (rows.take n)) (cutv n (g.hd T [])) := by
  obtain ⟨fh, h0, h1⟩ := rd_root h hT hp hn
  -- the same headers, read by this call: the blocks are T's
  have node : ∀ p e' rows', At p (.list e rows) = some (e', rows') → ∀ m, m ≤ rows'.length → RdNode P (callEnv σ H g w) e' (rows'.take m) (fun i j => g.hd T (p ++ [(i, j)])) (cutv m (g.hd T p)) := by
    intro p e' rows' hat m hm
    have hpur : PurRows rows' := pur_at p (.list e rows) (.list _ _ hp) e' rows' hat
    have hlen : (rows'.take m).length = m := by simp; omega
    rcases h.node T e rows hT p e' rows' hat with ⟨h1, h2⟩ | ⟨b, cap, cur, h1, h2, h3, h4, h5, h6, h7, h8⟩
    · subst h2
      simp at hm
      subst hm
      exact ⟨none, 0, by rw [h1]; rfl, by simp, by simp [maxLen], .inl (by simp)⟩
    · refine ⟨_, cap, by rw [h1, hlen]; rfl, by rw [hlen]; omega, h6, .inr ⟨b, 0, rfl, fun i r hr => ?_⟩⟩
      rw [List.getElem?_take] at hr
      split at hr
      · obtain ⟨h9, h10⟩ := h8 i r hr
        refine ⟨h9, fun j c hc => ?_⟩
        obtain ⟨u, h11, h12⟩ := h10 j c hc
        refine ⟨u, ⟨(Array.getElem?_eq_some_iff.1 h4).1, nown_rt h hσ h2 _, ?_⟩, fcell_of_ocell (hpur r (List.mem_of_getElem? hr) c (List.mem_of_getElem? hc)) h12⟩
        rw [Nat.zero_add]
        exact cell_of_heap h4 h11
      · cases hr
  refine ⟨fun p => if p = [] then cutv n (g.hd T []) else g.hd T p, by simp, fun p e' rows' hat => ?_⟩
  cases p with
  | nil =>
    simp only [At, Option.some.injEq, Prod.mk.injEq] at hat
    obtain ⟨rfl, rfl⟩ := hat
    have := node [] e rows rfl n hn
    simpa using this
  | cons x q =>
    have hat' := At_take hat
    have h1 := node _ e' rows' hat' rows'.length (Nat.le_refl _)
    rw [List.take_length] at h1
    have h2 : cutv rows'.length (g.hd T (x :: q)) = g.hd T (x :: q) := by
      rcases h.node T e rows hT _ e' rows' hat' with ⟨h1, h2⟩ | ⟨b, cap, cur, h1, _⟩
      · rw [h1, h2]; rfl
      · rw [h1]; rfl
    rw [h2] at h1
    simpa using h1

theorem ptO_rel (h : HRel P E g H w) {x : VV} {u : Value} (hx : CRel P E H g x u) (hok : ptOk H x) (hh : hid σ x = true) : Rd P (callEnv σ H g w) (x.pt H) u := by
  cases x with
  | nl e => have hx : u = .slice none 0 0 := hx; subst hx; exact rd_nil
  | fr e rows => exact rdO_frame (x := .list e rows) h hx
  | rf T n =>
    simp only [ptOk] at hok
    split at hok
    · rename_i e rows hT
      obtain ⟨h1, h2⟩ := hok
      obtain ⟨_, _, hv⟩ := hx
      have hv := hv (by simp [hT, Ent.isRoot])
      simp only [VV.pt, hT]
      rw [hv]
      refine rdO_root h (idx_none ?_) hT h2 h1
      simpa [hid] using hh
    · exact hok.elim
  | int => exact hx
  | bool => exact hx
  | str => exact hx
  | _ => exact hok.elim

theorem fpO_frame (h : HRel P E g H w) {row : List PT} {v : Value} (hx : CapRel P E H g (.fp row) v) {H' : Heap} {g' : Gh} : CapRel P (callEnv σ H g w) H' g' (.fp row) v := by
  obtain ⟨b, o, h1, h2⟩ := hx
  refine ⟨b, o, h1, fun j c hc => ?_⟩
  obtain ⟨u, h3, h4⟩ := h2 j c hc
  exact ⟨u, ⟨Nat.lt_of_lt_of_le h3.1 h.frm.size, nown_rd h h3, rd_cell h.frm h3⟩, rdO_frame h h4⟩

theorem boxO_frame (h : HRel P E g H w) {T j : Nat} {v : Value} (hx : CapRel P E H g (.bp T j) v) (hok : capsOk H (.bp T j)) (hhd : capHid σ H (.bp T j)) {H' : Heap} {g' : Gh} : CapRel P (callEnv σ H g w) H' g' (frzBox H T j) v := by
  simp only [capsOk] at hok
  split at hok
  · rename_i cs hT
    obtain ⟨hn, hall⟩ := hhd
    rw [hT] at hall
    simp only at hall
    obtain ⟨_, _, hv⟩ := hx
    have hv := hv (by simp [hT, Ent.live])
    obtain ⟨cur, e, hw, ho, hc⟩ := h.box T cs hT
    simp only [frzBox, hT]
    refine ⟨_, _, hv, fun k c hk => ?_⟩
    simp only [List.getElem?_map, List.getElem?_drop, Option.map_eq_some_iff] at hk
    obtain ⟨x, hx, rfl⟩ := hk
    obtain ⟨hob, _, u, hu, hr⟩ := hc (j + k) x hx
    have hmem : x ∈ cs.drop j := List.mem_of_getElem? (i := k) (by rw [List.getElem?_drop]; exact hx)
    refine ⟨u, ⟨(Array.getElem?_eq_some_iff.1 hw).1, ?_, ?_⟩, ptO_rel h hr (hok x hmem) (List.all_eq_true.1 hall x hmem)⟩
    · rw [Nat.add_assoc]; exact nown_bx h (idx_none hn) ho hob
    · have := cell_of_heap hw hu
      rw [Nat.add_assoc]
      exact this
  · exact hok.elim

theorem frzO_rel (h : HRel P E g H w) {x : VV} {u : Value} (hx : CRel P E H g x u) {H' : Heap} {g' : Gh} (hr : ∀ T n, x ≠ .rf T n) (hb : ∀ T j, x ≠ .bp T j) (hnl : ∀ e, x ≠ .nl e) (hok : viewOkC σ H x) : CRel P (callEnv σ H g w) H' g' (frzC H x) u := by
  cases x with
  | rf T n => exact absurd rfl (hr T n)
  | bp T j => exact absurd rfl (hb T j)
  | nl e => exact absurd rfl (hnl e)
  | fr e rows => exact rdO_frame (x := .list e rows) h hx
  | clo f caps =>
    obtain ⟨cs, h1, h2, h3⟩ := hx
    refine ⟨cs, h1, by simpa using h2, fun j c u hc hu => ?_⟩
    simp only [List.getElem?_map, Option.map_eq_some_iff] at hc
    obtain ⟨c0, hc0, rfl⟩ := hc
    have hr := h3 j c0 u hc0 hu
    obtain ⟨ho, hh⟩ := hok c0 (List.mem_of_getElem? hc0)
    cases c0 <;> try exact ho.elim
    case bp T j => exact boxO_frame h hr ho hh
    case fp row => exact fpO_frame h hr
  | fp row => exact fpO_frame h (g := g) (H := H) (H' := H') (g' := g') hx
  | bs T j n e =>
    obtain ⟨hn, hok⟩ := hok
    refine bs_frame h hx hok fun cs hT k u hk hu => ?_
    obtain ⟨x, hx⟩ : ∃ x, cs[k]? = some x := ⟨_, List.getElem?_eq_getElem hk⟩
    obtain ⟨cur, e0, hw, ho, hc⟩ := h.box T cs hT
    exact ⟨(Array.getElem?_eq_some_iff.1 hw).1, nown_bx h (idx_none hn) ho (hc k x hx).1, hu⟩
  | np => exact hok.elim
  | agg => exact hok.elim
  | tup => exact hok.elim
  | _ => exact hx

theorem viewE_root {x : Ent} : (viewE σ H x).isRoot = x.isRoot := by cases x <;> rfl
theorem viewE_live {x : Ent} : (viewE σ H x).live = x.live := by cases x <;> rfl
theorem hpI {k T : Nat} (hk : σ[k]? = some T) : HpE (σ.map fun T => viewE σ H (H T)) k = viewE σ H (H T) := by simp [HpE, hk]
theorem hpI_none {k : Nat} (hk : σ[k]? = none) : HpE (σ.map fun T => viewE σ H (H T)) k = .dead := by simp [HpE, hk]

theorem viewC_rel (h : HRel P E g H w) {x : VV} {u : Value} (hx : CRel P E H g x u) (hok : viewOkC σ H x) : CRel P (callEnv σ H g w) (HpE (σ.map fun T => viewE σ H (H T))) (g.call σ) (viewC σ H x) u := by
  by_cases hr : ∃ T n, x = .rf T n
  · obtain ⟨T, n, rfl⟩ := hr
    simp only [viewOkC] at hok
    simp only [viewC]
    cases hi : idx σ T with
    | some k =>
      have hk := idx_some hi
      obtain ⟨h1, h2, h3⟩ := hx
      refine ⟨by simp only [Gh.call, decide_eq_true_eq]; exact (List.getElem?_eq_some_iff.1 hk).1, h2, fun hroot => ?_⟩
      rw [hpI hk, viewE_root] at hroot
      simp only [Gh.call, hk]
      exact h3 hroot
    | none =>
      rw [hi] at hok
      simp only [frzOkC] at hok
      simp only [frzC]
      split at hok
      · rename_i e rows hT
        obtain ⟨h1, h2⟩ := hok
        obtain ⟨_, _, hv⟩ := hx
        have hv := hv (by simp [hT, Ent.isRoot])
        rw [hv]
        exact rdO_root h (idx_none hi) hT h2 h1
      · exact hok.elim
  · by_cases hb : ∃ T j, x = .bp T j
    · obtain ⟨T, j, rfl⟩ := hb
      simp only [viewOkC] at hok
      simp only [viewC]
      cases hi : idx σ T with
      | some k =>
        have hk := idx_some hi
        obtain ⟨h1, h2, h3⟩ := hx
        refine ⟨by simp only [Gh.call, decide_eq_true_eq]; exact (List.getElem?_eq_some_iff.1 hk).1, h2, fun hlive => ?_⟩
        rw [hpI hk, viewE_live] at hlive
        simp only [Gh.call, hk]
        exact h3 hlive
      | none =>
        rw [hi] at hok
        have := boxO_frame (σ := σ) (H' := HpE (σ.map fun T => viewE σ H (H T))) (g' := g.call σ) h (T := T) (j := j) hx hok.1 ⟨hi, hok.2⟩
        simp only [frzBox] at this ⊢
        split at this
        · exact this
        · exact this.elim
    · by_cases hn : ∃ e, x = .nl e
      · obtain ⟨e, rfl⟩ := hn
        exact hx
      · have h1 : viewC σ H x = frzC H x := by
          cases x <;> first | rfl | exact absurd ⟨_, _, rfl⟩ hr | exact absurd ⟨_, _, rfl⟩ hb | exact absurd ⟨_, rfl⟩ hn
        rw [h1]
        exact frzO_rel h hx (fun T n hh => hr ⟨T, n, hh⟩) (fun T n hh => hb ⟨T, n, hh⟩) (fun e hh => hn ⟨e, hh⟩) hok

theorem viewA_rel (h : HRel P E g H w) {x : VV} {u : Value} (hx : VRel P E H g x u) (hok : viewOk σ H x) : ARel P (callEnv σ H g w) (HpE (σ.map fun T => viewE σ H (H T))) (g.call σ) (viewA σ H x) u := by
  by_cases ha : ∃ vs, x = .agg vs
  · obtain ⟨vs, rfl⟩ := ha
    obtain ⟨cs, h1, h2, h3⟩ := hx
    refine ⟨cs, h1, by simpa using h2, fun j c u hc hu => ?_⟩
    simp only [List.getElem?_map, Option.map_eq_some_iff] at hc
    obtain ⟨c0, hc0, rfl⟩ := hc
    exact viewC_rel h (h3 j c0 u hc0 hu) (hok c0 (List.mem_of_getElem? hc0))
  · have hne : ∀ vs, x ≠ .agg vs := fun vs hh => ha ⟨vs, hh⟩
    have hnt : ∀ vs, x ≠ .tup vs := fun vs hh => by subst hh; exact hok
    rw [vrel_eq hnt, arel_eq hne] at hx
    have h1 : viewA σ H x = viewC σ H x := by cases x <;> first | rfl | exact absurd rfl (hne _)
    have h2 : viewOkC σ H x := by cases x <;> first | exact hok | exact absurd rfl (hne _)
    rw [h1]
    exact arel_of_crel (viewC_rel h hx h2)

/-- What such a call begins with. -/
theorem hrel_callG (hid : Nat → Nat → Prop) (hidOk : ∀ b o, ownR σ H g b o → hid b o) (h : HRel P E g H w) (hn : σ.Nodup) (hokr : ∀ T ∈ σ, ∀ e rows, H T = .root e rows → PurRows rows)
    (hokb : ∀ T ∈ σ, ∀ cs, H T = .box cs → ∀ c ∈ cs, ∀ u, CRel P E H g c u → CRel P (callEnvG σ H g w hid hidOk) (HpE (σ.map fun T => viewE σ H (H T))) (g.call σ) (viewC σ H c) u) :
    HRel P (callEnvG σ H g w hid hidOk) (g.call σ) (HpE (σ.map fun T => viewE σ H (H T))) w := by
  refine ⟨Frm.refl _, fun k e rows hk p e2 rows2 hp => ?_, fun k cs hk => ?_, fun k hk => ?_⟩
  · cases hT : σ[k]? with
    | none => rw [hpI_none hT] at hk; cases hk
    | some T =>
      rw [hpI hT] at hk
      have hroot : H T = .root e rows := by
        cases hx : H T with
        | root e' rows' => rw [hx] at hk; exact hk
        | box cs => rw [hx] at hk; cases hk
        | dead => rw [hx] at hk; cases hk
      have hmem := List.mem_of_getElem? hT
      have hidx := idx_get hn hT
      have hpr : PurRows rows := hokr T hmem e rows hroot
      have hpr2 : PurRows rows2 := pur_at p (.list e rows) (.list _ _ hpr) e2 rows2 hp
      rcases h.node T e rows hroot p e2 rows2 hp with ⟨k1, k2⟩ | ⟨b, cap, cur, k1, k2, k3, k4, k5, k6, k7, k8⟩
      · exact .inl ⟨by simp only [Gh.call, hT]; exact k1, k2⟩
      · refine .inr ⟨b, cap, cur, by simp only [Gh.call, hT]; exact k1, by simp only [Gh.call, k2, hidx, Option.map_some], .inr fun o => .inl ⟨T, hmem, e, rows, p, e2, rows2, _, _, hroot, hp, k1⟩, k4, k5, k6, k7, fun i r hr => ?_⟩
        obtain ⟨m1, m2⟩ := k8 i r hr
        refine ⟨m1, fun j c hc => ?_⟩
        obtain ⟨u, m3, m4⟩ := m2 j c hc
        refine ⟨u, m3, ?_⟩
        simp only [Gh.call, hT]
        have := hpr2 r (List.mem_of_getElem? hr) c (List.mem_of_getElem? hc)
        cases this <;> exact m4
  · cases hT : σ[k]? with
    | none => rw [hpI_none hT] at hk; cases hk
    | some T =>
      rw [hpI hT] at hk
      obtain ⟨cs0, hbox, rfl⟩ : ∃ cs0, H T = .box cs0 ∧ cs = cs0.map (viewC σ H) := by
        cases hx : H T with
        | root e' rows' => rw [hx] at hk; cases hk
        | box cs0 => rw [hx] at hk; injection hk with hk; exact ⟨cs0, rfl, hk.symm⟩
        | dead => rw [hx] at hk; cases hk
      have hmem := List.mem_of_getElem? hT
      have hidx := idx_get hn hT
      have hokc := hokb T hmem cs0 hbox
      obtain ⟨cur, e, k1, k2, k3⟩ := h.box T cs0 hbox
      have hbx : (g.call σ).bx k = g.bx T := by simp only [Gh.call, hT]
      refine ⟨cur, e, by rw [hbx]; exact k1, by rw [hbx]; simp only [Gh.call, k2], fun j c hc => ?_⟩
      simp only [List.getElem?_map, Option.map_eq_some_iff] at hc
      obtain ⟨c0, hc0, rfl⟩ := hc
      obtain ⟨k4, k5, u, k6, k7⟩ := k3 j c0 hc0
      rw [hbx]
      refine ⟨by simp only [Gh.call, k4, hidx, Option.map_some], .inr (.inr ⟨T, hmem, cs0, j, hbox, (List.getElem?_eq_some_iff.1 hc0).1, rfl, rfl⟩), u, k6, hokc c0 (List.mem_of_getElem? hc0) u k7⟩
  · cases hT : σ[k]? with
    | none => rw [hpI_none hT] at hk; cases hk
    | some T => simp only [Gh.call, decide_eq_true_eq]; exact (List.getElem?_eq_some_iff.1 hT).1
theorem hrel_call (h : HRel P E g H w) (hn : σ.Nodup) (hok : ∀ T ∈ σ, viewOkE σ H (H T)) : HRel P (callEnv σ H g w) (g.call σ) (HpE (σ.map fun T => viewE σ H (H T))) w :=
  hrel_callG _ _ h hn (fun T hT e rows hr => by have := hok T hT; rw [hr] at this; exact this) fun T hT cs hb c hc u hu => viewC_rel h hu (by have := hok T hT; rw [hb] at this; exact this c hc)
end
end Go.Proofs.Ytchkbgekmoileaa

/- The value-level engine, fifteenth part, d: what comes back from a call that turns what it is handed. -/
namespace Go.Proofs.Ytchkbgekmoileaa
open Go Go.RowKit
set_option linter.unusedVariables false
set_option linter.unusedSimpArgs false

def tkB (σ : List Nat) (nx k : Nat) : Nat := match σ[k]? with
  | some T => T
  | none => nx + (k - σ.length)
def bkC (σ : List Nat) (nx : Nat) : VV → VV
  | .rf k n => .rf (tkB σ nx k) n
  | x => x
def bkA (σ : List Nat) (nx : Nat) : VV → VV
  | .agg vs => .agg (vs.map (bkC σ nx))
  | x => bkC σ nx x
def bkV (σ : List Nat) (nx : Nat) : VV → VV
  | .tup vs => .tup (vs.map (bkA σ nx))
  | x => bkA σ nx x
def bkE (σ : List Nat) (nx : Nat) : Ent → Ent
  | .box cs => .box (cs.map (bkC σ nx))
  | x => x
def putO (bk : Ent → Ent) : List Nat → Nat → List Ent → Heap → Heap
  | T :: σ, n, o :: O, H => updH T (bk o) (putO bk σ n O H)
  | [], n, o :: O, H => updH n (bk o) (putO bk [] (n + 1) O H)
  | _, _, [], H => H

theorem putO_nil (bk : Ent → Ent) : ∀ (O : List Ent) (n : Nat) (H : Heap) (X : Nat), putO bk [] n O H X = if n ≤ X ∧ X < n + O.length then bk ((O[X - n]?).getD .dead) else H X
  | [], n, H, X => by simp [putO]; omega
  | o :: O, n, H, X => by
    simp only [putO]
    by_cases c : X = n
    · subst c; simp [updH_same]
    · rw [updH_ne _ _ c, putO_nil bk O (n + 1) H X]
      by_cases d : n ≤ X ∧ X < n + (o :: O).length
      · simp only [List.length_cons] at d
        rw [if_pos (by omega), if_pos (by simp only [List.length_cons]; omega)]
        obtain ⟨k, rfl⟩ : ∃ k, X = n + 1 + k := ⟨X - (n + 1), by omega⟩
        rw [show n + 1 + k - (n + 1) = k by omega, show n + 1 + k - n = k + 1 by omega]
        simp
      · simp only [List.length_cons] at d
        rw [if_neg (by omega), if_neg (by simp only [List.length_cons]; omega)]

theorem putO_at (bk : Ent → Ent) : ∀ (σ : List Nat) (hn : σ.Nodup) (O : List Ent) (hl : σ.length ≤ O.length) (n : Nat) (H : Heap) (X : Nat),
    putO bk σ n O H X = match idx σ X with
      | some k => bk ((O[k]?).getD .dead)
      | none => if n ≤ X ∧ X < n + (O.length - σ.length) then bk ((O[σ.length + (X - n)]?).getD .dead) else H X
  | [], _, O, _, n, H, X => by rw [putO_nil]; simp [idx]
  | T :: σ, _, [], hl, n, H, X => by simp at hl
  | T :: σ, hn, o :: O, hl, n, H, X => by
    simp only [putO, idx]
    rw [List.nodup_cons] at hn
    by_cases c : X = T
    · subst c; simp [updH_same]
    · rw [updH_ne _ _ c, if_neg c, putO_at bk σ hn.2 O (by simpa using hl) n H X]
      cases hi : idx σ X with
      | some k => simp
      | none =>
        simp only [Option.map_none, List.length_cons, Nat.add_sub_add_right]
        rw [show σ.length + 1 + (X - n) = σ.length + (X - n) + 1 by omega]
        simp

def Gh.back (g g' : Gh) (σ : List Nat) (nx m sz : Nat) : Gh :=
  { hd := fun X p => match idx σ X with
      | some k => g'.hd k p
      | none => if nx ≤ X ∧ X < nx + m then g'.hd (σ.length + (X - nx)) p else g.hd X p
    bx := fun X => match idx σ X with
      | some k => g'.bx k
      | none => g.bx X
    own := fun b => if sz ≤ b then (g'.own b).map fun x => (tkB σ nx x.1, x.2) else match g.own b with
      | some (T, p) => (match idx σ T with
        | some _ => (g'.own b).map fun x => (tkB σ nx x.1, x.2)
        | none => some (T, p))
      | none => none
    ob := fun b o => if sz ≤ b then (g'.ob b o).map fun x => (tkB σ nx x.1, x.2) else match g.ob b o with
      | some (T, j) => (match idx σ T with
        | some _ => (g'.ob b o).map fun x => (tkB σ nx x.1, x.2)
        | none => some (T, j))
      | none => none
    sn := fun X => match idx σ X with
      | some _ => true
      | none => if nx ≤ X ∧ X < nx + m then g'.sn (σ.length + (X - nx)) else g.sn X }

section
variable {P : Program} {E : Env} {g g' : Gh} {H : Heap} {s : St} {a : Act} {w w' : World} {ty : Ty} {σ : List Nat} {O : List Ent} {nx : Nat}

theorem box_bound (H : Heap) (g : Gh) : ∀ σ : List Nat, ∃ N, ∀ T ∈ σ, ∀ cs, H T = .box cs → (g.bx T).2 + cs.length ≤ N
  | [] => ⟨0, fun T hT => by simp at hT⟩
  | X :: σ => by
    obtain ⟨N, hN⟩ := box_bound H g σ
    cases hx : H X with
    | box cs0 =>
      refine ⟨max N ((g.bx X).2 + cs0.length), fun T hT cs hc => ?_⟩
      rcases List.mem_cons.1 hT with rfl | hT
      · rw [hx] at hc; injection hc with hc; subst hc; exact Nat.le_max_right _ _
      · exact Nat.le_trans (hN T hT cs hc) (Nat.le_max_left _ _)
    | dead =>
      refine ⟨N, fun T hT cs hc => ?_⟩
      rcases List.mem_cons.1 hT with rfl | hT
      · rw [hx] at hc; cases hc
      · exact hN T hT cs hc
    | root e rows =>
      refine ⟨N, fun T hT cs hc => ?_⟩
      rcases List.mem_cons.1 hT with rfl | hT
      · rw [hx] at hc; cases hc
      · exact hN T hT cs hc

/-- A block that is owned whole lies under a slice that was handed over. -/
theorem own_all (h : HRel P E g H w) {b : Nat} (ho : ∀ o, ownR σ H g b o) : ∃ T ∈ σ, ∃ p, g.own b = some (T, p) ∧ (E.w0.heap.size ≤ b ∨ ∀ o, E.own b o) := by
  obtain ⟨N, hN⟩ := box_bound H g σ
  have h1 := ho N
  rcases h1 with h1 | ⟨T, hT, cs, j, k1, k2, k3, k4⟩
  · rcases ownR_cases h (Or.inl h1 : ownR σ H g b N) with ⟨T, hT, p, k1, k2, _⟩ | ⟨T, hT, j, k1, _⟩
    · exact ⟨T, hT, p, k1, k2⟩
    · obtain ⟨T, hT, e, rows, p, e', rows', n, c, m1, m2, m3⟩ := h1
      have := (node_lt (h.node T e rows m1 p e' rows' m2) m3).2
      rw [this] at k1; cases k1
  · have := hN T hT cs k1
    omega

theorem same_block {hid : Nat → Nat → Prop} {hidOk : ∀ b o, ownR σ H g b o → hid b o} (h' : Frm (callEnvG σ H g w hid hidOk) w') {b : Nat} (hb : b < w.heap.size) (hno : ∀ o, ¬ ownR σ H g b o) : w'.heap[b]? = w.heap[b]? := by
  cases hx : w.heap[b]? with
  | none => rw [Array.getElem?_eq_none_iff] at hx; omega
  | some x =>
    by_cases hc : ∃ c e fz, x = Obj.cells c e fz
    · obtain ⟨c, e, fz, rfl⟩ := hc
      obtain ⟨c', h1, h2, h3⟩ := h'.cells b c e fz hx
      have : c' = c := by
        apply Array.ext_getElem?
        intro i
        exact h3 i (hno i)
      rw [h1, this]
    · exact h'.other b x hx (fun c e fz hh => hc ⟨c, e, fz, hh⟩)

theorem bkE_root {x : Ent} {e : TypeId} {rows : List (List PT)} (h : bkE σ nx x = .root e rows) : x = .root e rows := by
  cases x <;> first | exact h | (simp [bkE] at h; done)
theorem bkE_box {x : Ent} {cs : List VV} (h : bkE σ nx x = .box cs) : ∃ cs0, x = .box cs0 ∧ cs = cs0.map (bkC σ nx) := by
  cases x with
  | box cs0 => simp only [bkE, Ent.box.injEq] at h; exact ⟨cs0, rfl, h.symm⟩
  | dead => cases h
  | root => cases h
theorem bkE_live {x : Ent} : (bkE σ nx x).live = x.live := by cases x <;> rfl
theorem bkE_isRoot {x : Ent} : (bkE σ nx x).isRoot = x.isRoot := by cases x <;> rfl

theorem live_of_ok {T : Nat} (h : viewOkE σ H (H T)) : (H T).live = true := by
  cases hx : H T with
  | dead => rw [hx] at h; exact h.elim
  | _ => rfl

theorem hrel_backG (hid : Nat → Nat → Prop) (hidOk : ∀ b o, ownR σ H g b o → hid b o) (fo : Bool) (hfo : fo = true → ∀ e rows u, Rd P (callEnvG σ H g w hid hidOk) (.list e rows) u → Rd P E (.list e rows) u) (h : HRel P E g H w) (hn : σ.Nodup) (hlive : ∀ T ∈ σ, (H T).live = true) (hlen : σ.length ≤ O.length)
    (hkept : ∀ (k : Nat) (x y : Ent), (σ.map fun T => viewE σ H (H T))[k]? = some x → O[k]? = some y → keptOkF fo x y) (hnew : ∀ (k : Nat) (y : Ent), σ.length ≤ k → O[k]? = some y → newOk y)
    (h' : HRel P (callEnvG σ H g w hid hidOk) g' (HpE O) w') (hk : ∀ T, O.length ≤ T → g'.sn T = false) (hle' : HLe (g.call σ) (HpE (σ.map fun T => viewE σ H (H T))) g' (HpE O))
    (hf : ∀ T, nx ≤ T → T < nx + (O.length - σ.length) → g.sn T = false) :
    HRel P E (g.back g' σ nx (O.length - σ.length) w.heap.size) (putO (bkE σ nx) σ nx O H) w' ∧ HLe g H (g.back g' σ nx (O.length - σ.length) w.heap.size) (putO (bkE σ nx) σ nx O H) ∧
      (∀ c u, outF fo c = true → CRel P (callEnvG σ H g w hid hidOk) (HpE O) g' c u → CRel P E (putO (bkE σ nx) σ nx O H) (g.back g' σ nx (O.length - σ.length) w.heap.size) (bkC σ nx c) u) := by
  have hsn : ∀ T ∈ σ, g.sn T = true := fun T hT => h.seen T (hlive T hT)
  have hat := putO_at (bkE σ nx) σ hn O hlen nx H
  generalize hH2 : putO (bkE σ nx) σ nx O H = H2 at *
  generalize hg2 : g.back g' σ nx (O.length - σ.length) w.heap.size = g2
  -- a token of the call's, under its new name
  have hin : ∀ k, k < σ.length → ∃ T, σ[k]? = some T ∧ idx σ T = some k ∧ T ∈ σ ∧ tkB σ nx k = T := fun k hk' => by
    have h1 : σ[k]? = some σ[k] := List.getElem?_eq_getElem hk'
    exact ⟨σ[k], h1, idx_get hn h1, List.getElem_mem hk', by simp only [tkB, h1]⟩
  have hnewT : ∀ k, σ.length ≤ k → k < O.length → tkB σ nx k = nx + (k - σ.length) ∧ idx σ (nx + (k - σ.length)) = none := fun k h1 h2 => by
    have h3 : σ[k]? = none := List.getElem?_eq_none h1
    refine ⟨by simp only [tkB, h3], idx_notMem fun hm => ?_⟩
    have := hsn _ hm
    rw [hf _ (by omega) (by omega)] at this
    cases this
  have key : ∀ k, k < O.length → ∃ y, O[k]? = some y ∧ H2 (tkB σ nx k) = bkE σ nx y ∧ HpE O k = y ∧ (∀ p, g2.hd (tkB σ nx k) p = g'.hd k p) ∧ (g'.sn k = true → g2.sn (tkB σ nx k) = true) := fun k hk' => by
    have h1 : O[k]? = some O[k] := List.getElem?_eq_getElem hk'
    rcases Nat.lt_or_ge k σ.length with c | c
    · obtain ⟨T, k1, k2, k3, k4⟩ := hin k c
      refine ⟨O[k], h1, by rw [k4, hat T, k2]; simp [h1], by simp [HpE, h1], fun p => by rw [k4, ← hg2]; simp only [Gh.back, k2], fun _ => by rw [k4, ← hg2]; simp only [Gh.back, k2]⟩
    · obtain ⟨k1, k2⟩ := hnewT k c hk'
      have hr : nx ≤ nx + (k - σ.length) ∧ nx + (k - σ.length) < nx + (O.length - σ.length) := ⟨by omega, by omega⟩
      have e1 : σ.length + (nx + (k - σ.length) - nx) = k := by omega
      refine ⟨O[k], h1, by rw [k1, hat, k2]; simp only [if_pos hr, e1, h1, Option.getD_some], by simp [HpE, h1], fun p => by rw [k1, ← hg2]; simp only [Gh.back, k2, if_pos hr, e1], fun hs => by rw [k1, ← hg2]; simp only [Gh.back, k2, if_pos hr, e1]; exact hs⟩
  -- where a token comes from
  have split : ∀ X, (∃ k, k < O.length ∧ X = tkB σ nx k ∧ (X ∈ σ → k < σ.length) ∧ (X ∉ σ → σ.length ≤ k)) ∨ (X ∉ σ ∧ idx σ X = none ∧ ¬ (nx ≤ X ∧ X < nx + (O.length - σ.length)) ∧ H2 X = H X ∧ (∀ p, g2.hd X p = g.hd X p) ∧ g2.bx X = g.bx X ∧ g2.sn X = g.sn X) := fun X => by
    cases hi : idx σ X with
    | some k =>
      have h1 := idx_some hi
      have h2 : k < σ.length := (List.getElem?_eq_some_iff.1 h1).1
      exact .inl ⟨k, by omega, by simp only [tkB, h1], fun _ => h2, fun hm => absurd (List.mem_of_getElem? h1) hm⟩
    | none =>
      by_cases c : nx ≤ X ∧ X < nx + (O.length - σ.length)
      · obtain ⟨k1, _⟩ := hnewT (σ.length + (X - nx)) (by omega) (by omega)
        exact .inl ⟨σ.length + (X - nx), by omega, by rw [k1]; omega, fun hm => absurd hm (idx_none hi), fun _ => by omega⟩
      · refine .inr ⟨idx_none hi, rfl, c, by rw [hat X, hi]; simp only [if_neg c], fun p => by rw [← hg2]; simp only [Gh.back, hi, if_neg c], by rw [← hg2]; simp only [Gh.back, hi], by rw [← hg2]; simp only [Gh.back, hi, if_neg c]⟩
  have hcs : ∀ k, k < σ.length → (g.call σ).sn k = true := fun k hk' => by simp [Gh.call, hk']
  have hle : HLe g H g2 H2 := by
    have old : ∀ X, g.sn X = true → (∃ k, k < σ.length ∧ σ[k]? = some X ∧ X = tkB σ nx k) ∨ (H2 X = H X ∧ (∀ p, g2.hd X p = g.hd X p) ∧ g2.bx X = g.bx X ∧ g2.sn X = g.sn X) := fun X hX => by
      rcases split X with ⟨k, h1, h2, h3, h4⟩ | ⟨_, _, _, h4, h5, h6, h7⟩
      · by_cases hm : X ∈ σ
        · have h5 := h3 hm
          obtain ⟨T, k1, k2, k3, k4⟩ := hin k h5
          exact .inl ⟨k, h5, by rw [h2, k4]; exact k1, h2⟩
        · have hge := h4 hm
          obtain ⟨k1, k2⟩ := hnewT k hge h1
          have hz := hf (nx + (k - σ.length)) (by omega) (by omega)
          rw [h2, k1, hz] at hX
          cases hX
      · exact .inr ⟨h4, h5, h6, h7⟩
    have hI : ∀ k X, σ[k]? = some X → HpE (σ.map fun T => viewE σ H (H T)) k = viewE σ H (H X) := fun k X hX => hpI hX
    refine ⟨fun X hX => ?_, fun X e rows hX hr => ?_, fun X hX hr => ?_, fun X hX hr => ?_, fun X hX hr => ?_⟩
    · rcases old X hX with ⟨k, h1, h2, h3⟩ | ⟨_, _, _, h4⟩
      · obtain ⟨y, _, _, _, _, h5⟩ := key k (by omega)
        rw [h3]
        exact h5 (hle'.sn k (hcs k h1))
      · rw [h4]; exact hX
    · rcases old X hX with ⟨k, h1, h2, h3⟩ | ⟨h4, _⟩
      · obtain ⟨y, _, h5, h6, _⟩ := key k (by omega)
        rw [h3, h5] at hr
        have hy := bkE_root hr
        obtain ⟨rows1, h7⟩ := hle'.root k e rows (hcs k h1) (by rw [h6]; exact hy)
        rw [hI k X h2] at h7
        cases hx : H X with
        | root e1 r1 => rw [hx] at h7; simp only [viewE, Ent.root.injEq] at h7; rw [h7.1]; exact ⟨r1, rfl⟩
        | box cs => rw [hx] at h7; cases h7
        | dead => rw [hx] at h7; cases h7
      · rw [h4] at hr; exact ⟨rows, hr⟩
    · rcases old X hX with ⟨k, h1, h2, h3⟩ | ⟨h4, _⟩
      · exact hlive X (List.mem_of_getElem? h2)
      · rwa [h4] at hr
    · rcases old X hX with ⟨k, h1, h2, h3⟩ | ⟨_, h4, _⟩
      · obtain ⟨y, _, h5, h6, h7, _⟩ := key k (by omega)
        rw [h3, h5, bkE_isRoot] at hr
        have h8 := hle'.hd k (hcs k h1) (by rw [h6]; exact hr)
        have h9 := h7 []
        rw [← h3] at h9
        rw [h9, h8]
        simp only [Gh.call, h2]
      · exact h4 []
    · rcases old X hX with ⟨k, h1, h2, h3⟩ | ⟨_, _, h4, _⟩
      · obtain ⟨y, _, h5, h6, h7, _⟩ := key k (by omega)
        rw [h3, h5, bkE_live] at hr
        have h8 := hle'.bx k (hcs k h1) (by rw [h6]; exact hr)
        have h9 : g2.bx X = g'.bx k := by rw [← hg2]; simp only [Gh.back, idx_get hn h2]
        rw [h9, h8]
        simp only [Gh.call, h2]
      · exact h4
  have hcr : ∀ c u, outF fo c = true → CRel P (callEnvG σ H g w hid hidOk) (HpE O) g' c u → CRel P E H2 g2 (bkC σ nx c) u := by
    intro c u ho hc
    cases c <;> first | exact hc | (simp [outF, outE, isFr] at ho; done) | skip
    case fr e rows =>
      have hf : fo = true := by simpa [outF, outE, isFr] using ho
      exact hfo hf e rows u hc
    case rf k n =>
      obtain ⟨h1, h2, h3⟩ := hc
      have hlt : k < O.length := by
        rcases Nat.lt_or_ge k O.length with c | c
        · exact c
        · rw [hk k c] at h1; cases h1
      obtain ⟨y, k1, k2, k3, k4, k5⟩ := key k hlt
      refine ⟨k5 h1, h2, fun hr => ?_⟩
      rw [k2, bkE_isRoot] at hr
      rw [k4]
      exact h3 (by rw [k3]; exact hr)
  have hfr : Frm E w' := by
    refine h.frm.step h'.frm.os h'.frm.tape h'.frm.output h'.frm.size fun b hb => ?_
    by_cases ho : ∃ o, ownR σ H g b o
    · obtain ⟨o, ho⟩ := ho
      have hcell : ∃ cur e, w.heap[b]? = some (.cells cur e (0, 0)) := by
        rcases ownR_cases h ho with ⟨_, _, _, _, _, k⟩ | ⟨_, _, _, _, _, _, k⟩ <;> exact k
      obtain ⟨cur, e, hw⟩ := hcell
      obtain ⟨c', h1, h2, h3⟩ := h'.frm.cells b cur e (0, 0) hw
      refine .inr ⟨cur, e, c', hw, h1, h2, fun o' ho' => h3 o' fun hh => ?_⟩
      rcases ownR_cases h hh with ⟨_, _, _, _, k, _⟩ | ⟨_, _, _, _, _, k, _⟩
      · rcases k with k | k
        · omega
        · exact ho' (k o')
      · rcases k with k | k
        · omega
        · exact ho' k
    · exact .inl (same_block h'.frm (Nat.lt_of_lt_of_le hb h.frm.size) fun o hh => ho ⟨o, hh⟩)
  refine ⟨⟨hfr, fun X e rows hX p e2 rows2 hp => ?_, fun X cs hX => ?_, fun X hX => ?_⟩, hle, hcr⟩
  · rcases split X with ⟨k, h1, h2, h3, h4⟩ | ⟨hm, hi, hnr, h4, h5, h6, h7⟩
    · obtain ⟨y, k1, k2, k3, k4, k5⟩ := key k h1
      rw [h2, k2] at hX
      have hy := bkE_root hX
      subst hy
      have hpr : PurRows rows := by
        rcases Nat.lt_or_ge k σ.length with c | c
        · have hI : (σ.map fun T => viewE σ H (H T))[k]? = some (viewE σ H (H σ[k])) := by simp [c]
          have := hkept k _ _ hI k1
          cases hx : viewE σ H (H σ[k]) with
          | root e1 r1 => rw [hx] at this; exact this.2
          | box cs => rw [hx] at this; exact this.elim
          | dead => rw [hx] at this; exact this.elim
        · exact hnew k _ c k1
      have hpr2 : PurRows rows2 := pur_at p (.list e rows) (.list _ _ hpr) e2 rows2 hp
      rw [h2]
      rcases h'.node k e rows k3 p e2 rows2 hp with ⟨m1, m2⟩ | ⟨b, cap, cur, m1, m2, m3, m4, m5, m6, m7, m8⟩
      · exact .inl ⟨by rw [k4]; exact m1, m2⟩
      · have hb : (w.heap.size ≤ b) ∨ (b < w.heap.size ∧ ∃ T ∈ σ, ∃ p, g.own b = some (T, p) ∧ (E.w0.heap.size ≤ b ∨ ∀ o, E.own b o)) := by
          rcases Nat.lt_or_ge b w.heap.size with c | c
          · rcases m3 with m3 | m3
            · exact .inl m3
            · exact .inr ⟨c, own_all h m3⟩
          · exact .inl c
        refine .inr ⟨b, cap, cur, by rw [k4]; exact m1, ?_, ?_, m4, m5, m6, m7, fun i r hr => ?_⟩
        · rw [← hg2]
          rcases hb with hb | ⟨hb, T, hT, q, hq, _⟩
          · simp only [Gh.back, if_pos hb, m2, Option.map_some]
          · obtain ⟨kk, hkk⟩ := idx_mem hT
            simp only [Gh.back, if_neg (Nat.not_le.2 hb), hq, hkk, m2, Option.map_some]
        · rcases hb with hb | ⟨_, T, hT, q, _, hq⟩
          · exact .inl (Nat.le_trans h.frm.size hb)
          · exact hq
        · obtain ⟨q1, q2⟩ := m8 i r hr
          refine ⟨q1, fun j c hc => ?_⟩
          obtain ⟨u, q3, q4⟩ := q2 j c hc
          refine ⟨u, q3, ?_⟩
          rw [k4]
          have := hpr2 r (List.mem_of_getElem? hr) c (List.mem_of_getElem? hc)
          cases this <;> exact q4
    · rw [h4] at hX
      refine node_mono hle (h.node X e rows hX p e2 rows2 hp) h5 (fun b hb ho => ?_) (fun b hb ho => same_block h'.frm hb (nown_rt h hm ho))
      rw [← hg2]
      simp only [Gh.back, if_neg (Nat.not_le.2 hb), ho, hi]
  · rcases split X with ⟨k, h1, h2, h3, h4⟩ | ⟨hm, hi, hnr, h4, h5, h6, h7⟩
    · obtain ⟨y, k1, k2, k3, k4, k5⟩ := key k h1
      rw [h2, k2] at hX
      obtain ⟨cs', rfl, rfl⟩ := bkE_box hX
      rcases Nat.lt_or_ge k σ.length with c | c
      rotate_left
      · exact (hnew k _ c k1).elim
      obtain ⟨T, j1, j2, j3, j4⟩ := hin k c
      have hXT : X = T := by rw [h2, j4]
      subst hXT
      have hI : (σ.map fun T => viewE σ H (H T))[k]? = some (viewE σ H (H X)) := by simp [j1]
      have hkp := hkept k _ _ hI k1
      obtain ⟨cs0, hbox⟩ : ∃ cs0, H X = .box cs0 := by
        cases hx : H X with
        | root e1 r1 => rw [hx] at hkp; exact hkp.elim
        | box cs => exact ⟨cs, rfl⟩
        | dead => rw [hx] at hkp; exact hkp.elim
      rw [hbox] at hkp
      obtain ⟨hl, hall⟩ := hkp
      rw [List.length_map] at hl
      obtain ⟨cur0, e0, b1, b2, b3⟩ := h.box X cs0 hbox
      obtain ⟨cur, e, m1, m2, m3⟩ := h'.box k cs' k3
      have hbx : g'.bx k = g.bx X := by
        have := hle'.bx k (hcs k c) (by rw [k3]; rfl)
        rw [this]
        simp only [Gh.call, j1]
      have hbx2 : g2.bx X = g.bx X := by rw [← hg2]; simp only [Gh.back, j2, hbx]
      have hlt : (g.bx X).1 < w.heap.size := (Array.getElem?_eq_some_iff.1 b1).1
      rw [hbx] at m1 m2 m3
      refine ⟨cur, e, by rw [hbx2]; exact m1, by rw [hbx2, ← hg2]; simp only [Gh.back, if_neg (Nat.not_le.2 hlt), b2], fun j c' hj => ?_⟩
      simp only [List.getElem?_map, Option.map_eq_some_iff] at hj
      obtain ⟨c0, hc0, rfl⟩ := hj
      have hjl : j < cs0.length := by rw [← hl]; exact (List.getElem?_eq_some_iff.1 hc0).1
      obtain ⟨n1, n2, _⟩ := b3 j cs0[j] (List.getElem?_eq_getElem hjl)
      obtain ⟨n3, n4, u, n5, n6⟩ := m3 j c0 hc0
      rw [hbx2]
      refine ⟨?_, n2, u, n5, hcr c0 u (List.all_eq_true.1 hall c0 (List.mem_of_getElem? hc0)) n6⟩
      rw [← hg2]
      simp only [Gh.back, if_neg (Nat.not_le.2 hlt), n1, j2, n3, Option.map_some, j4]
    · rw [h4] at hX
      have hb := h.box X cs hX
      obtain ⟨cur0, e0, b1, b2, b3⟩ := hb
      have hlt : (g.bx X).1 < w.heap.size := (Array.getElem?_eq_some_iff.1 b1).1
      refine box_mono hle (h.box X cs hX) h6 (fun hh => by rw [← hg2]; simp only [Gh.back, if_neg (Nat.not_le.2 hlt), hh]) (fun o j ho => by rw [← hg2]; simp only [Gh.back, if_neg (Nat.not_le.2 hlt), ho, hi]) (fun cur e he => ?_)
      obtain ⟨c', q1, q2, q3⟩ := h'.frm.cells _ cur e (0, 0) he
      exact ⟨c', q1, fun o j ho => q3 o (nown_bx h hm b2 ho)⟩
  · rcases split X with ⟨k, h1, h2, h3, h4⟩ | ⟨hm, hi, hnr, h4, h5, h6, h7⟩
    · obtain ⟨y, k1, k2, k3, k4, k5⟩ := key k h1
      rw [h2, k2, bkE_live] at hX
      rw [h2]
      exact k5 (h'.seen k (by rw [k3]; exact hX))
    · rw [h4] at hX
      rw [h7]
      exact h.seen X hX

theorem hrel_back (h : HRel P E g H w) (hn : σ.Nodup) (hok : ∀ T ∈ σ, viewOkE σ H (H T)) (hlen : σ.length ≤ O.length)
    (hkept : ∀ (k : Nat) (x y : Ent), (σ.map fun T => viewE σ H (H T))[k]? = some x → O[k]? = some y → keptOk x y) (hnew : ∀ (k : Nat) (y : Ent), σ.length ≤ k → O[k]? = some y → newOk y)
    (h' : HRel P (callEnv σ H g w) g' (HpE O) w') (hk : ∀ T, O.length ≤ T → g'.sn T = false) (hle' : HLe (g.call σ) (HpE (σ.map fun T => viewE σ H (H T))) g' (HpE O))
    (hf : ∀ T, nx ≤ T → T < nx + (O.length - σ.length) → g.sn T = false) :
    HRel P E (g.back g' σ nx (O.length - σ.length) w.heap.size) (putO (bkE σ nx) σ nx O H) w' ∧ HLe g H (g.back g' σ nx (O.length - σ.length) w.heap.size) (putO (bkE σ nx) σ nx O H) ∧
      (∀ c u, outE c = true → CRel P (callEnv σ H g w) (HpE O) g' c u → CRel P E (putO (bkE σ nx) σ nx O H) (g.back g' σ nx (O.length - σ.length) w.heap.size) (bkC σ nx c) u) := by
  obtain ⟨h1, h2, h3⟩ := hrel_backG _ _ false (fun hh => by cases hh) h hn (fun T hT => (live_of_ok (hok T hT))) hlen (fun k x y hx hy => keptOkF_of (hkept k x y hx hy)) hnew h' hk hle' hf
  exact ⟨h1, h2, fun c u hc hu => h3 c u (outE_outF hc) hu⟩

theorem outC_outE {c : VV} (h : outC c = true) : outE c = true := by cases c <;> first | rfl | (simp [outC] at h)

/-- The state behind such a call. -/
def St.impO (s : St) (σ : List Nat) (O : List Ent) : St := { s with H := putO (bkE σ s.nx) σ s.nx O s.H, nx := s.nx + (O.length - σ.length) }

theorem rel_backG (hid : Nat → Nat → Prop) (hidOk : ∀ b o, ownR σ s.H g b o → hid b o) (fo : Bool) (hfo : fo = true → ∀ e rows u, Rd P (callEnvG σ s.H g w hid hidOk) (.list e rows) u → Rd P E (.list e rows) u) (h : Rel P E g s a w) (hn : σ.Nodup) (hlive : ∀ T ∈ σ, (s.H T).live = true) (hlen : σ.length ≤ O.length) (hroom : s.room (O.length - σ.length) = true)
    (hkept : ∀ (k : Nat) (x y : Ent), (σ.map fun T => viewE σ s.H (s.H T))[k]? = some x → O[k]? = some y → keptOkF fo x y) (hnew : ∀ (k : Nat) (y : Ent), σ.length ≤ k → O[k]? = some y → newOk y)
    (h' : HRel P (callEnvG σ s.H g w hid hidOk) g' (HpE O) w') (hk : ∀ T, O.length ≤ T → g'.sn T = false) (hle' : HLe (g.call σ) (HpE (σ.map fun T => viewE σ s.H (s.H T))) g' (HpE O))
    {v : VV} {val : Value} (ho : outV v = true) (hv : VRel P (callEnvG σ s.H g w hid hidOk) (HpE O) g' v val) :
    ∃ g2, Rel P E g2 (s.impO σ O) a w' ∧ HLe g s.H g2 (s.impO σ O).H ∧ (∀ T, (s.nx ≤ T → s.nx + (O.length - σ.length) ≤ T) → g2.sn T = g.sn T) ∧ VRel P E (s.impO σ O).H g2 (bkV σ s.nx v) val := by
  obtain ⟨h1, h2, h3⟩ := hrel_backG hid hidOk fo hfo (nx := s.nx) h.heap hn hlive hlen hkept hnew h' hk hle' (fun T ha hb => fresh_at h hroom ha hb)
  have hsn : ∀ T, (s.nx ≤ T → s.nx + (O.length - σ.length) ≤ T) → (g.back g' σ s.nx (O.length - σ.length) w.heap.size).sn T = g.sn T := fun T hT => by
    have hc : ¬ (s.nx ≤ T ∧ T < s.nx + (O.length - σ.length)) := by omega
    simp only [Gh.back, if_neg hc]
    cases hi : idx σ T with
    | some k =>
      have hm := List.mem_of_getElem? (idx_some hi)
      exact (h.heap.seen T (hlive T hm)).symm
    | none => rfl
  refine ⟨_, rel_step (n' := s.nx + (O.length - σ.length)) h h2 h1 (fun T hT => ?_), h2, hsn, ?_⟩
  · obtain ⟨f1, f2⟩ := fresh_on (Nat.le_add_right _ _) hT
    rw [hsn T (fun _ => f2)]
    exact h.fresh T f1
  · have hA : ∀ {x : VV} {u : Value}, outA x = true → ARel P (callEnvG σ s.H g w hid hidOk) (HpE O) g' x u → ARel P E (s.impO σ O).H (g.back g' σ s.nx (O.length - σ.length) w.heap.size) (bkA σ s.nx x) u := by
      intro x u hx hu
      rcases outA_spec hx with ⟨vs, rfl, hvs⟩ | ⟨hne, hoc⟩
      · obtain ⟨cs, k1, k2, k3⟩ := hu
        refine ⟨cs, k1, by simpa using k2, fun j c u hc hu => ?_⟩
        simp only [List.getElem?_map, Option.map_eq_some_iff] at hc
        obtain ⟨c0, hc0, rfl⟩ := hc
        exact h3 _ _ (outE_outF (outC_outE (hvs c0 (List.mem_of_getElem? hc0)))) (k3 j c0 u hc0 hu)
      · rw [arel_eq hne] at hu
        have : bkA σ s.nx x = bkC σ s.nx x := by cases x <;> first | rfl | exact absurd rfl (hne _)
        rw [this]
        exact arel_of_crel (h3 _ _ (outE_outF (outC_outE hoc)) hu)
    by_cases ht : ∃ vs, v = .tup vs
    · obtain ⟨vs, rfl⟩ := ht
      obtain ⟨cs, k1, k2, k3⟩ := hv
      refine ⟨cs, k1, by simpa using k2, fun j c u hc hu => ?_⟩
      simp only [List.getElem?_map, Option.map_eq_some_iff] at hc
      obtain ⟨c0, hc0, rfl⟩ := hc
      have ho' : outA c0 = true := by
        simp only [outV, List.all_eq_true] at ho
        exact ho c0 (List.mem_of_getElem? hc0)
      exact hA ho' (k3 j c0 u hc0 hu)
    · have hne : ∀ vs, v ≠ .tup vs := fun vs hh => ht ⟨vs, hh⟩
      rw [vrel_eq hne] at hv
      have k1 : bkV σ s.nx v = bkA σ s.nx v := by cases v <;> first | rfl | exact absurd rfl (hne _)
      have k2 : outA v = true := by cases v <;> first | exact ho | exact absurd rfl (hne _)
      rw [k1]
      exact vrel_of_arel (hA k2 hv)

theorem rel_back (h : Rel P E g s a w) (hn : σ.Nodup) (hok : ∀ T ∈ σ, viewOkE σ s.H (s.H T)) (hlen : σ.length ≤ O.length) (hroom : s.room (O.length - σ.length) = true)
    (hkept : ∀ (k : Nat) (x y : Ent), (σ.map fun T => viewE σ s.H (s.H T))[k]? = some x → O[k]? = some y → keptOk x y) (hnew : ∀ (k : Nat) (y : Ent), σ.length ≤ k → O[k]? = some y → newOk y)
    (h' : HRel P (callEnv σ s.H g w) g' (HpE O) w') (hk : ∀ T, O.length ≤ T → g'.sn T = false) (hle' : HLe (g.call σ) (HpE (σ.map fun T => viewE σ s.H (s.H T))) g' (HpE O))
    {v : VV} {val : Value} (ho : outV v = true) (hv : VRel P (callEnv σ s.H g w) (HpE O) g' v val) :
    ∃ g2, Rel P E g2 (s.impO σ O) a w' ∧ HLe g s.H g2 (s.impO σ O).H ∧ (∀ T, (s.nx ≤ T → s.nx + (O.length - σ.length) ≤ T) → g2.sn T = g.sn T) ∧ VRel P E (s.impO σ O).H g2 (bkV σ s.nx v) val :=
  rel_backG _ _ false (fun hh => by cases hh) h hn (fun T hT => live_of_ok (hok T hT)) hlen hroom (fun k x y hx hy => keptOkF_of (hkept k x y hx hy)) hnew h' hk hle' ho hv

/-- A call of a function that turns what it is handed. -/
def OwnCall (P : Program) (f : FuncId) (xs : List VV) (s : St) (dst : Option Nat) (K : St → Prop) : Prop :=
  s.lim = none ∧ ∃ σ v O, σ.Nodup ∧ (∀ T ∈ σ, viewOkE σ s.H (s.H T)) ∧ (∀ x ∈ xs, viewOk σ s.H x) ∧ SatO P f (xs.map (viewA σ s.H)) (σ.map fun T => viewE σ s.H (s.H T)) v O ∧
    s.room (O.length - σ.length) = true ∧ ∃ s' : St, (s.impO σ O).putd dst (bkV σ s.nx v) = some s' ∧ K s'
end
end Go.Proofs.Ytchkbgekmoileaa

/- The value-level engine, fifteenth part, h: calls told by what they do to the state; calls of functions that turn what they are handed, where a variable may hold a slice that came in. -/
namespace Go.Proofs.Ytchkbgekmoileaa
open Go Go.RowKit
set_option linter.unusedVariables false
set_option linter.unusedSimpArgs false

/-- What a call does to any state with this memory. -/
def SemRun (P : Program) (f : FuncId) (xs : List VV) (H : Heap) (nx : Nat) (H' : Heap) (k : Nat) (v : VV) : Prop :=
  (∃ fn, P.funcs[f]? = some fn ∧ (fn.name == "runtime.NumGoroutine") = false ∧ fn.body.isNone = false) ∧
  ∀ (E : Env) (g : Gh) (s : St) (a : Act) (w : World) (vals : List Value), s.H = H → s.nx = nx → s.lim = none → Rel P E g s a w → vals.length = xs.length →
    (∀ (j : Nat) (x : VV) (u : Value), xs[j]? = some x → vals[j]? = some u → VRel P E H g x u) →
    Calls P f vals.toArray w fun ex w' => ∃ val g2, ex = .returned val ∧ Rel P E g2 { s with H := H', nx := nx + k } a w' ∧ (∀ X, (nx ≤ X → nx + k ≤ X) → g2.sn X = g.sn X) ∧ VRel P E H' g2 v val
def St.sem (s : St) (H' : Heap) (k : Nat) : St := { s with H := H', nx := s.nx + k }
/-- A call that is told so. -/
def SemCall (P : Program) (f : FuncId) (xs : List VV) (s : St) (dst : Option Nat) (K : St → Prop) : Prop :=
  s.lim = none ∧ ∃ H' k v, SemRun P f xs s.H s.nx H' k v ∧ ∃ s' : St, (s.sem H' k).putd dst v = some s' ∧ K s'

/-- As 'SatO'; a variable that is handed over may hold a slice that came in, and keeps it. -/
structure SatV (P : Program) (f : FuncId) (args : List VV) (I : List Ent) (v : VV) (O : List Ent) : Prop where
  fn : ∃ fn, P.funcs[f]? = some fn ∧ (fn.name == "runtime.NumGoroutine") = false ∧ fn.body.isNone = false
  out : outV v = true
  len : I.length ≤ O.length
  kept : ∀ (k : Nat) (x y : Ent), I[k]? = some x → O[k]? = some y → keptOkF true x y
  new : ∀ (k : Nat) (y : Ent), I.length ≤ k → O[k]? = some y → newOk y
  run : ∀ (E : Env) (g : Gh) (w : World) (vals : List Value), E.w0 = w → HRel P E g (HpE I) w → (∀ T, I.length ≤ T → g.sn T = false) → vals.length = args.length →
    (∀ (j : Nat) (x : VV) (u : Value), args[j]? = some x → vals[j]? = some u → ARel P E (HpE I) g x u) →
    Calls P f vals.toArray w fun e w' => ∃ val g', e = .returned val ∧ HRel P E g' (HpE O) w' ∧ (∀ T, O.length ≤ T → g'.sn T = false) ∧ HLe g (HpE I) g' (HpE O) ∧ VRel P E (HpE O) g' v val
theorem SatO.toV {P : Program} {f : FuncId} {args : List VV} {I : List Ent} {v : VV} {O : List Ent} (h : SatO P f args I v O) : SatV P f args I v O := ⟨h.fn, h.out, h.len, fun k x y hx hy => keptOkF_of (h.kept k x y hx hy), h.new, h.run⟩

def vOkC (σ : List Nat) : VV → Bool
  | .rf T _ => (idx σ T).isSome
  | .bp T _ => (idx σ T).isSome
  | .int .. | .bool _ | .str _ | .nl _ | .fr .. | .err _ | .any => true
  | _ => false
def vOkA (σ : List Nat) : VV → Bool
  | .agg vs => vs.all (vOkC σ)
  | x => vOkC σ x
def vOkE (σ : List Nat) : Ent → Prop
  | .dead => False
  | .root _ rows => PurRows rows
  | .box cs => cs.all (vOkC σ) = true

section
variable {P : Program} {E : Env} {g g' : Gh} {H : Heap} {s : St} {a : Act} {w w' : World} {ty : Ty} {σ : List Nat} {O : List Ent} {nx : Nat}

/-- What such a call may read is what its caller may read. -/
def hidV (E : Env) (σ : List Nat) (H : Heap) (g : Gh) : Nat → Nat → Prop := fun b o => ownR σ H g b o ∨ ¬ ∃ u, E.rd b o u
theorem hidV_ok (b o : Nat) (h : ownR σ H g b o) : hidV E σ H g b o := .inl h

theorem rdV_frame (h : HRel P E g H w) {x : PT} {v : Value} (hr : Rd P E x v) : Rd P (callEnvG σ H g w (hidV E σ H g) hidV_ok) x v := by
  cases x <;> try exact hr
  case list e rows =>
    obtain ⟨fh, h0, h1⟩ := hr
    refine ⟨fh, h0, fun p e' rows' hp => ?_⟩
    obtain ⟨A, cap, h2, h3, h4, h5⟩ := h1 p e' rows' hp
    refine ⟨A, cap, h2, h3, h4, ?_⟩
    rcases h5 with h5 | ⟨b, o, h5, h6⟩
    · exact .inl h5
    · refine .inr ⟨b, o, h5, fun i r hr => ?_⟩
      obtain ⟨h7, h8⟩ := h6 i r hr
      refine ⟨h7, fun j c hc => ?_⟩
      obtain ⟨u, h9, h10⟩ := h8 j c hc
      exact ⟨u, ⟨Nat.lt_of_lt_of_le h9.1 h.frm.size, fun hh => hh.elim (nown_rd h h9) fun k => k ⟨u, h9⟩, rd_cell h.frm h9⟩, h10⟩

theorem rdV_back (h : HRel P E g H w) {x : PT} {v : Value} (hr : Rd P (callEnvG σ H g w (hidV E σ H g) hidV_ok) x v) : Rd P E x v := by
  cases x <;> try exact hr
  case list e rows =>
    obtain ⟨fh, h0, h1⟩ := hr
    refine ⟨fh, h0, fun p e' rows' hp => ?_⟩
    obtain ⟨A, cap, h2, h3, h4, h5⟩ := h1 p e' rows' hp
    refine ⟨A, cap, h2, h3, h4, ?_⟩
    rcases h5 with h5 | ⟨b, o, h5, h6⟩
    · exact .inl h5
    · refine .inr ⟨b, o, h5, fun i r hr => ?_⟩
      obtain ⟨h7, h8⟩ := h6 i r hr
      refine ⟨h7, fun j c hc => ?_⟩
      obtain ⟨u, ⟨k1, k2, k3⟩, h10⟩ := h8 j c hc
      have k4 : ∃ u, E.rd b (o + (i * P.cellsOf e' + j)) u := Classical.byContradiction fun hn => k2 (.inr hn)
      obtain ⟨u', h9⟩ := k4
      have k5 := rd_cell h.frm h9
      have k3 : w.cell? ⟨b, o + (i * P.cellsOf e' + j), none⟩ = some u := k3
      rw [k3] at k5
      injection k5 with k5
      subst k5
      exact ⟨u, h9, h10⟩

theorem viewC_relV (h : HRel P E g H w) {x : VV} {u : Value} (hx : CRel P E H g x u) (hok : vOkC σ x = true) : CRel P (callEnvG σ H g w (hidV E σ H g) hidV_ok) (HpE (σ.map fun T => viewE σ H (H T))) (g.call σ) (viewC σ H x) u := by
  cases x with
  | rf T n =>
    simp only [vOkC] at hok
    simp only [viewC]
    cases hi : idx σ T with
    | none => rw [hi] at hok; cases hok
    | some k =>
      have hk := idx_some hi
      obtain ⟨h1, h2, h3⟩ := hx
      refine ⟨by simp only [Gh.call, decide_eq_true_eq]; exact (List.getElem?_eq_some_iff.1 hk).1, h2, fun hroot => ?_⟩
      rw [hpI hk, viewE_root] at hroot
      simp only [Gh.call, hk]
      exact h3 hroot
  | bp T j =>
    simp only [vOkC] at hok
    simp only [viewC]
    cases hi : idx σ T with
    | none => rw [hi] at hok; cases hok
    | some k =>
      have hk := idx_some hi
      obtain ⟨h1, h2, h3⟩ := hx
      refine ⟨by simp only [Gh.call, decide_eq_true_eq]; exact (List.getElem?_eq_some_iff.1 hk).1, h2, fun hlive => ?_⟩
      rw [hpI hk, viewE_live] at hlive
      simp only [Gh.call, hk]
      exact h3 hlive
  | fr e rows => exact rdV_frame (x := .list e rows) h hx
  | int => exact hx
  | bool => exact hx
  | str => exact hx
  | nl => exact hx
  | err => exact hx
  | any => exact hx
  | _ => cases hok

theorem viewA_relV (h : HRel P E g H w) {x : VV} {u : Value} (hx : VRel P E H g x u) (hok : vOkA σ x = true) : ARel P (callEnvG σ H g w (hidV E σ H g) hidV_ok) (HpE (σ.map fun T => viewE σ H (H T))) (g.call σ) (viewA σ H x) u := by
  by_cases ha : ∃ vs, x = .agg vs
  · obtain ⟨vs, rfl⟩ := ha
    obtain ⟨cs, h1, h2, h3⟩ := hx
    refine ⟨cs, h1, by simpa using h2, fun j c u hc hu => ?_⟩
    simp only [List.getElem?_map, Option.map_eq_some_iff] at hc
    obtain ⟨c0, hc0, rfl⟩ := hc
    exact viewC_relV h (h3 j c0 u hc0 hu) (List.all_eq_true.1 hok c0 (List.mem_of_getElem? hc0))
  · have hne : ∀ vs, x ≠ .agg vs := fun vs hh => ha ⟨vs, hh⟩
    have hnt : ∀ vs, x ≠ .tup vs := fun vs hh => by subst hh; cases hok
    rw [vrel_eq hnt, arel_eq hne] at hx
    have h1 : viewA σ H x = viewC σ H x := by cases x <;> first | rfl | exact absurd rfl (hne _)
    have h2 : vOkC σ x = true := by cases x <;> first | exact hok | exact absurd rfl (hne _)
    rw [h1]
    exact arel_of_crel (viewC_relV h hx h2)

theorem vOkE_live {T : Nat} (h : vOkE σ (H T)) : (H T).live = true := by
  cases hx : H T with
  | dead => rw [hx] at h; exact h.elim
  | _ => rfl

/-- Such a call, told by what it does to the state. -/
theorem sem_of_V {f : FuncId} {xs : List VV} {v : VV} (σ : List Nat) (hn : σ.Nodup) (hok : ∀ T ∈ σ, vOkE σ (H T)) (hxs : ∀ x ∈ xs, vOkA σ x = true)
    (hS : SatV P f (xs.map (viewA σ H)) (σ.map fun T => viewE σ H (H T)) v O) : SemRun P f xs H nx (putO (bkE σ nx) σ nx O H) (O.length - σ.length) (bkV σ nx v) := by
  refine ⟨hS.fn, fun E g s a w vals hH hnx hlim h hlen hargs => ?_⟩
  subst hH
  subst hnx
  have hlive : ∀ T ∈ σ, (s.H T).live = true := fun T hT => vOkE_live (hok T hT)
  have hcall := hrel_callG (hidV E σ s.H g) hidV_ok h.heap hn (fun T hT e rows hr => by have := hok T hT; rw [hr] at this; exact this) fun T hT cs hb c hc u hu => viewC_relV h.heap hu (by
    have := hok T hT; rw [hb] at this; exact List.all_eq_true.1 this c hc)
  have hl : σ.length ≤ O.length := by have := hS.len; simpa using this
  have hrun := hS.run (callEnvG σ s.H g w (hidV E σ s.H g) hidV_ok) (g.call σ) w vals rfl hcall (fun T hT => by simp at hT; simp only [Gh.call, decide_eq_false_iff_not]; omega) (by simpa using hlen) fun j x u hx hu => by
    simp only [List.getElem?_map, Option.map_eq_some_iff] at hx
    obtain ⟨x0, hx0, rfl⟩ := hx
    exact viewA_relV h.heap (hargs j x0 u hx0 hu) (hxs x0 (List.mem_of_getElem? hx0))
  refine hrun.mono fun ex w' he => ?_
  obtain ⟨val, g', rfl, h1, h2, h3, h4⟩ := he
  obtain ⟨g2, k1, k2, k3, k4⟩ := rel_backG (hidV E σ s.H g) hidV_ok true (fun _ e rows u hr => rdV_back (x := .list e rows) h.heap hr) h hn hlive hl (by simp only [St.room, hlim]) hS.kept (fun k y hk hy => hS.new k y (by simpa using hk) hy) h1 h2 h3 hS.out h4
  exact ⟨val, g2, rfl, k1, k3, k4⟩
end
end Go.Proofs.Ytchkbgekmoileaa
