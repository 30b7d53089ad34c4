/- The value-level engine, fifteenth part: what a call promises, what is handed to it, what comes back. -/
import Derived.Test.YtclljpdcpcolpaaEngN
namespace Go.Proofs.Ytclljpdcpcolpaa
open Go Go.RowKit
set_option linter.unusedVariables false
set_option linter.unusedSimpArgs false

/-- A tree without references. -/
inductive PT.Pur : PT → Prop
  | int (k n) : PT.Pur (.int k n)
  | bool (b) : PT.Pur (.bool b)
  | str (s) : PT.Pur (.str s)
  | list (e rows) : (∀ r ∈ rows, ∀ c ∈ r, PT.Pur c) → PT.Pur (.list e rows)

def PurRows (rows : List (List PT)) : Prop := ∀ r ∈ rows, ∀ c ∈ r, PT.Pur c

theorem pur_at : ∀ (p : Path) (c : PT), PT.Pur c → ∀ e rows, At p c = some (e, rows) → PurRows rows
  | [], c, h, e, rows, ha => by
    cases c <;> simp [At] at ha
    obtain ⟨rfl, rfl⟩ := ha
    cases h with
    | list _ _ h => exact h
  | (i, j) :: p, c, h, e, rows, ha => by
    cases c with
    | list e0 rows0 =>
      simp only [At] at ha
      cases h with
      | list _ _ h =>
        cases hr : rows0[i]? with
        | none => rw [hr] at ha; simp at ha
        | some r =>
          rw [hr] at ha
          simp only [Option.getD_some] at ha
          cases hc : r[j]? with
          | none => rw [hc] at ha; simp at ha
          | some c' =>
            rw [hc] at ha
            simp only [Option.bind_some] at ha
            exact pur_at p c' (h r (List.mem_of_getElem? hr) c' (List.mem_of_getElem? hc)) e rows ha
    | _ => simp [At] at ha

/-- A cell of a variable, as it is read. -/
def VV.pt (H : Heap) : VV → PT
  | .int k n => .int k n
  | .bool b => .bool b
  | .str s => .str s
  | .nl e => .list e []
  | .fr e rows => .list e rows
  | .rf T n => match H T with
    | .root e rows => .list e (rows.take n)
    | _ => .hole
  | _ => .hole
def ptOk (H : Heap) : VV → Prop
  | .int .. | .bool _ | .str _ | .nl _ | .fr .. => True
  | .rf T n => match H T with
    | .root _ rows => n ≤ rows.length ∧ PurRows rows
    | _ => False
  | _ => False
def frzBox (H : Heap) (T j : Nat) : VV := match H T with
  | .box cs => .fp ((cs.drop j).map (VV.pt H))
  | _ => .any
def frzSl (H : Heap) (T j n : Nat) (e : TypeId) : VV := match H T with
  | .box cs => .fr e (((cs.drop j).take n).map fun c => [VV.pt (fun _ => .dead) c])
  | _ => .any
def oneS : VV → Bool
  | .int .. | .bool _ | .str _ => true
  | _ => false
def frzCap (H : Heap) : VV → VV
  | .bp T j => frzBox H T j
  | x => x
def capsOk (H : Heap) : VV → Prop
  | .bp T j => match H T with
    | .box cs => ∀ x ∈ cs.drop j, ptOk H x
    | _ => False
  | .fp _ => True
  | _ => False

/-- A value as a call is handed it. -/
def frzC (H : Heap) : VV → VV
  | .nl e => .fr e []
  | .rf T n => match H T with
    | .root e rows => .fr e (rows.take n)
    | _ => .any
  | .bp T j => frzBox H T j
  | .bs T j n e => frzSl H T j n e
  | .clo f caps => .clo f (caps.map (frzCap H))
  | x => x
def frzA (H : Heap) : VV → VV
  | .agg vs => .agg (vs.map (frzC H))
  | x => frzC H x

def frzOkC (H : Heap) : VV → Prop
  | .rf T n => match H T with
    | .root e rows => n ≤ rows.length ∧ PurRows rows
    | _ => False
  | .bp T j => match H T with
    | .box cs => ∀ x ∈ cs.drop j, ptOk H x
    | _ => False
  | .bs T j n _ => match H T with
    | .box cs => j + n ≤ cs.length ∧ ∀ x ∈ (cs.drop j).take n, oneS x = true
    | _ => False
  | .clo _ caps => ∀ c ∈ caps, capsOk H c
  | .np .. | .agg _ | .tup _ => False
  | _ => True
def frzOk (H : Heap) : VV → Prop
  | .agg vs => ∀ x ∈ vs, frzOkC H x
  | x => frzOkC H x

/-- The slices that a call hands back. -/
def Hp (l : List (TypeId × List (List PT))) : Heap := fun T => match l[T]? with
  | some (e, rows) => .root e rows
  | none => .dead

def Gh.nil : Gh := ⟨fun _ _ => undef, fun _ => (0, 0), fun _ => none, fun _ _ => none, fun _ => false⟩

def outC : VV → Bool
  | .int _ _ | .bool _ | .str _ | .rf _ _ | .err _ | .any => true
  | _ => false
def outA : VV → Bool
  | .agg vs => vs.all outC
  | x => outC x
def outV : VV → Bool
  | .tup vs => vs.all outA
  | x => outA x

def shC (k : Nat) : VV → VV
  | .rf T n => .rf (k + T) n
  | x => x
def shA (k : Nat) : VV → VV
  | .agg vs => .agg (vs.map (shC k))
  | x => shC k x
def shV (k : Nat) : VV → VV
  | .tup vs => .tup (vs.map (shA k))
  | x => shA k x

def botEnv (w : World) : Env := ⟨w, fun _ _ => False, fun _ _ => True, fun _ _ _ _ _ _ => trivial⟩

/-- What a function gives for arguments that it only reads. -/
structure SatP (P : Program) (f : FuncId) (args : List VV) (v : VV) (l : List (TypeId × List (List PT))) : Prop where
  fn : ∃ fn, P.funcs[f]? = some fn ∧ (fn.name == "runtime.NumGoroutine") = false ∧ fn.body.isNone = false
  out : outV v = true
  pur : ∀ x ∈ l, PurRows x.2
  run : ∀ (w : World) (vals : List Value), vals.length = args.length → (∀ (j : Nat) (x : VV) (u : Value), args[j]? = some x → vals[j]? = some u → ARel P (botEnv w) (fun _ => .dead) Gh.nil x u) →
    Calls P f vals.toArray w fun e w' => ∃ val g', e = .returned val ∧ HRel P (botEnv w) g' (Hp l) w' ∧ (∀ T, l.length ≤ T → g'.sn T = false) ∧ VRel P (botEnv w) (Hp l) g' v val

section
variable {P : Program} {E : Env} {g g' : Gh} {H : Heap} {s : St} {a : Act} {w w' : World} {ty : Ty}

theorem cell_of_heap {b o : Nat} {cur : Array Value} {e : TypeId} {fz : Nat × Nat} {u : Value} (h : w.heap[b]? = some (.cells cur e fz)) (hu : cur[o]? = some u) : w.cell? ⟨b, o, none⟩ = some u := by
  simp [World.cell?, h, hu]

theorem frm_bot (h : Frm (botEnv w) w') {b : Nat} (hb : b < w.heap.size) : w'.heap[b]? = w.heap[b]? := by
  cases hx : w.heap[b]? with
  | none => rw [Array.getElem?_eq_none_iff] at hx; omega
  | some x =>
    by_cases hc : ∃ c e fz, x = Obj.cells c e fz
    · obtain ⟨c, e, fz, rfl⟩ := hc
      obtain ⟨c', h1, h2, h3⟩ := h.cells b c e fz hx
      have : c' = c := by
        apply Array.ext_getElem?
        intro i
        exact h3 i (fun h => h)
      rw [h1, this]
    · exact h.other b x hx (fun c e fz hh => hc ⟨c, e, fz, hh⟩)

/-- What came in reads, for a call, as what came in. -/
theorem rd_frame {x : PT} {v : Value} (hf : Frm E w) (h : Rd P E x v) : Rd P (botEnv w) x v := by
  cases x <;> try exact h
  case list e rows =>
    obtain ⟨fh, h0, h1⟩ := h
    refine ⟨fh, h0, fun p e' rows' hp => ?_⟩
    obtain ⟨A, cap, h2, h3, h4, h5⟩ := h1 p e' rows' hp
    refine ⟨A, cap, h2, h3, h4, ?_⟩
    rcases h5 with h5 | ⟨b, o, h5, h6⟩
    · exact .inl h5
    · refine .inr ⟨b, o, h5, fun i r hr => ?_⟩
      obtain ⟨h7, h8⟩ := h6 i r hr
      refine ⟨h7, fun j c hc => ?_⟩
      obtain ⟨u, h9, h10⟩ := h8 j c hc
      have h11 := rd_cell hf h9
      refine ⟨u, ⟨?_, fun h => h, h11⟩, h10⟩
      have : b < E.w0.heap.size := h9.1
      exact Nat.lt_of_lt_of_le this hf.size

theorem fcell_of_ocell {c : PT} {hh u : Value} (hc : c.Pur) (h : ocell H g c hh u) : fcell c hh u := by
  cases hc <;> exact h

/-- A slice of the call's own, as it is read. -/
theorem rd_root (h : HRel P E g H w) {T : Nat} {e : TypeId} {rows : List (List PT)} (hT : H T = .root e rows) (hp : PurRows rows) {n : Nat} (hn : n ≤ rows.length) : Rd P (botEnv w) (.list e (rows.take n)) (cutv n (g.hd T [])) := by
  have node : ∀ p e' rows', At p (.list e rows) = some (e', rows') → ∀ m, m ≤ rows'.length → RdNode P (botEnv w) e' (rows'.take m) (fun i j => g.hd T (p ++ [(i, j)])) (cutv m (g.hd T p)) := by
    intro p e' rows' hat m hm
    have hpur : PurRows rows' := pur_at p (.list e rows) (.list _ _ hp) e' rows' hat
    have hlen : (rows'.take m).length = m := by simp; omega
    rcases h.node T e rows hT p e' rows' hat with ⟨h1, h2⟩ | ⟨b, cap, cur, h1, h2, h3, h4, h5, h6, h7, h8⟩
    · subst h2
      simp at hm
      subst hm
      exact ⟨none, 0, by rw [h1]; rfl, by simp, by simp [maxLen], .inl (by simp)⟩
    · refine ⟨_, cap, by rw [h1, hlen]; rfl, by rw [hlen]; omega, h6, .inr ⟨b, 0, rfl, fun i r hr => ?_⟩⟩
      rw [List.getElem?_take] at hr
      split at hr
      · obtain ⟨h9, h10⟩ := h8 i r hr
        refine ⟨h9, fun j c hc => ?_⟩
        obtain ⟨u, h11, h12⟩ := h10 j c hc
        refine ⟨u, ⟨(Array.getElem?_eq_some_iff.1 h4).1, fun h => h, ?_⟩, fcell_of_ocell (hpur r (List.mem_of_getElem? hr) c (List.mem_of_getElem? hc)) h12⟩
        rw [Nat.zero_add]
        exact cell_of_heap h4 h11
      · cases hr
  refine ⟨fun p => if p = [] then cutv n (g.hd T []) else g.hd T p, by simp, fun p e' rows' hat => ?_⟩
  cases p with
  | nil =>
    simp only [At, Option.some.injEq, Prod.mk.injEq] at hat
    obtain ⟨rfl, rfl⟩ := hat
    have := node [] e rows rfl n hn
    simpa using this
  | cons x q =>
    obtain ⟨i, j⟩ := x
    have hat' : At ((i, j) :: q) (.list e rows) = some (e', rows') := by
      simp only [At] at hat ⊢
      rw [List.getElem?_take] at hat
      split at hat
      · exact hat
      · simp at hat
    have h1 := node _ e' rows' hat' rows'.length (Nat.le_refl _)
    rw [List.take_length] at h1
    have h2 : cutv rows'.length (g.hd T ((i, j) :: q)) = g.hd T ((i, j) :: q) := by
      rcases h.node T e rows hT _ e' rows' hat' with ⟨h1, h2⟩ | ⟨b, cap, cur, h1, _⟩
      · rw [h1, h2]; rfl
      · rw [h1]; rfl
    rw [h2] at h1
    simpa using h1

theorem rd_nil {e : TypeId} {E : Env} : Rd P E (.list e []) (.slice none 0 0) := by
  refine ⟨fun _ => .slice none 0 0, rfl, fun p e' rows' hp => ?_⟩
  cases p with
  | nil =>
    simp only [At, Option.some.injEq, Prod.mk.injEq] at hp
    obtain ⟨rfl, rfl⟩ := hp
    exact ⟨none, 0, rfl, by simp, by simp [maxLen], .inl rfl⟩
  | cons x q => obtain ⟨i, j⟩ := x; simp [At] at hp

theorem pt_rel (h : HRel P E g H w) {x : VV} {u : Value} (hx : CRel P E H g x u) (hok : ptOk H x) : Rd P (botEnv w) (x.pt H) u := by
  cases x with
  | nl e => have hx : u = .slice none 0 0 := hx; subst hx; exact rd_nil
  | fr e rows => exact rd_frame (x := .list e rows) h.frm hx
  | rf T n =>
    simp only [ptOk] at hok
    split at hok
    · rename_i e rows hT
      obtain ⟨h1, h2⟩ := hok
      obtain ⟨_, _, hv⟩ := hx
      have hv := hv (by simp [hT, Ent.isRoot])
      simp only [VV.pt, hT]
      rw [hv]
      exact rd_root h hT h2 h1
    · exact hok.elim
  | int => exact hx
  | bool => exact hx
  | str => exact hx
  | _ => exact hok.elim

theorem fp_frame (hf : Frm E w) {row : List PT} {v : Value} (hx : CapRel P E H g (.fp row) v) {H' : Heap} {g' : Gh} : CapRel P (botEnv w) H' g' (.fp row) v := by
  obtain ⟨b, o, h1, h2⟩ := hx
  refine ⟨b, o, h1, fun j c hc => ?_⟩
  obtain ⟨u, h3, h4⟩ := h2 j c hc
  exact ⟨u, ⟨Nat.lt_of_lt_of_le h3.1 hf.size, fun h => h, rd_cell hf h3⟩, rd_frame hf h4⟩

theorem box_frame (h : HRel P E g H w) {T j : Nat} {v : Value} (hx : CapRel P E H g (.bp T j) v) (hok : capsOk H (.bp T j)) {H' : Heap} {g' : Gh} : CapRel P (botEnv w) H' g' (frzBox H T j) v := by
  simp only [capsOk] at hok
  split at hok
  · rename_i cs hT
    obtain ⟨_, _, hv⟩ := hx
    have hv := hv (by simp [hT, Ent.live])
    obtain ⟨cur, e, hw, _, hc⟩ := h.box T cs hT
    simp only [frzBox, hT]
    refine ⟨_, _, hv, fun k c hk => ?_⟩
    simp only [List.getElem?_map, List.getElem?_drop, Option.map_eq_some_iff] at hk
    obtain ⟨x, hx, rfl⟩ := hk
    obtain ⟨_, _, u, hu, hr⟩ := hc (j + k) x hx
    refine ⟨u, ⟨(Array.getElem?_eq_some_iff.1 hw).1, fun h => h, ?_⟩, pt_rel h hr (hok x (List.mem_of_getElem? (i := k) (by rw [List.getElem?_drop]; exact hx)))⟩
    have := cell_of_heap hw hu
    rw [Nat.add_assoc]
    exact this
  · exact hok.elim

theorem scal_pt {E : Env} {H : Heap} {g : Gh} {x : VV} {u : Value} (h : oneS x = true) (hx : CRel P E H g x u) (f : Value) : fcell (VV.pt (fun _ => .dead) x) f u := by
  cases x <;> first | exact hx | cases h
theorem bs_frame {E2 : Env} (h : HRel P E g H w) {T j n : Nat} {e : TypeId} {v : Value} (hx : CRel P E H g (.bs T j n e) v) (hok : frzOkC H (.bs T j n e))
    (hrd : ∀ cs, H T = .box cs → ∀ k u, k < cs.length → w.cell? ⟨(g.bx T).1, (g.bx T).2 + k, none⟩ = some u → E2.rd (g.bx T).1 ((g.bx T).2 + k) u) {H' : Heap} {g' : Gh} : CRel P E2 H' g' (frzSl H T j n e) v := by
  obtain ⟨_, _, ⟨h1, h2⟩, hv⟩ := hx
  simp only [frzOkC] at hok
  split at hok
  · rename_i cs hT
    obtain ⟨h3, h4⟩ := hok
    have hv := hv (by simp [hT, Ent.live])
    obtain ⟨cur, e0, hw, _, hc⟩ := h.box T cs hT
    simp only [frzSl, hT]
    have hlen : (((cs.drop j).take n).map fun c => [VV.pt (fun _ => .dead) c]).length = n := by simp; omega
    refine ⟨fun _ => v, rfl, fun p e' rows' hp => ?_⟩
    have hcell : ∀ (i : Nat) (r : List PT), (((cs.drop j).take n).map fun c => [VV.pt (fun _ => .dead) c])[i]? = some r → ∃ x, cs[j + i]? = some x ∧ r = [VV.pt (fun _ => .dead) x] ∧ oneS x = true := fun i r hr => by
      simp only [List.getElem?_map, Option.map_eq_some_iff] at hr
      obtain ⟨x, hx, rfl⟩ := hr
      have hm := h4 x (List.mem_of_getElem? hx)
      rw [List.getElem?_take] at hx
      split at hx
      · rw [List.getElem?_drop] at hx; exact ⟨x, hx, rfl, hm⟩
      · cases hx
    cases p with
    | nil =>
      simp only [At, Option.some.injEq, Prod.mk.injEq] at hp
      obtain ⟨rfl, rfl⟩ := hp
      refine ⟨_, n, by rw [hlen]; exact hv, by rw [hlen]; exact Nat.le_refl _, h2, .inr ⟨_, _, rfl, fun i r hr => ?_⟩⟩
      obtain ⟨x, hx, rfl, hm⟩ := hcell i r hr
      refine ⟨by simp [h1], fun k c hk => ?_⟩
      match k with
      | 0 =>
        simp only [List.getElem?_cons_zero, Option.some.injEq] at hk
        subst hk
        obtain ⟨_, _, u, hu, hr⟩ := hc (j + i) x hx
        refine ⟨u, ?_, scal_pt hm hr _⟩
        rw [h1, Nat.mul_one, Nat.add_zero, Nat.add_assoc]
        exact hrd cs hT _ u (List.getElem?_eq_some_iff.1 hx).1 (cell_of_heap hw hu)
      | k + 1 => simp at hk
    | cons ij q =>
      obtain ⟨i, k⟩ := ij
      exfalso
      simp only [At] at hp
      cases hr : (((cs.drop j).take n).map fun c => [VV.pt (fun _ => .dead) c])[i]? with
      | none => rw [hr] at hp; simp at hp
      | some r =>
        obtain ⟨x, hx, rfl, hm⟩ := hcell i r hr
        rw [hr] at hp
        match k with
        | 0 =>
          simp only [Option.getD_some, List.getElem?_cons_zero, Option.bind_some] at hp
          cases x <;> first | (cases q with | nil => simp [VV.pt, At] at hp | cons a b => simp [VV.pt, At] at hp) | cases hm
        | k + 1 => simp at hp
  · exact hok.elim
theorem frzC_rel (h : HRel P E g H w) {x : VV} {u : Value} (hx : CRel P E H g x u) (hok : frzOkC H x) : CRel P (botEnv w) (fun _ => .dead) Gh.nil (frzC H x) u := by
  cases x with
  | nl e =>
    have hx : u = .slice none 0 0 := hx
    subst hx
    exact rd_nil
  | rf T n =>
    simp only [frzOkC] at hok
    split at hok
    · rename_i e rows hT
      obtain ⟨h1, h2⟩ := hok
      obtain ⟨_, _, hv⟩ := hx
      have hv := hv (by simp [hT, Ent.isRoot])
      simp only [frzC, hT]
      rw [hv]
      exact rd_root h hT h2 h1
    · exact hok.elim
  | fr e rows => exact rd_frame (x := .list e rows) h.frm hx
  | clo f caps =>
    obtain ⟨cs, h1, h2, h3⟩ := hx
    refine ⟨cs, h1, by simpa using h2, fun j c u hc hu => ?_⟩
    simp only [List.getElem?_map, Option.map_eq_some_iff] at hc
    obtain ⟨c0, hc0, rfl⟩ := hc
    have hr := h3 j c0 u hc0 hu
    have ho := hok c0 (List.mem_of_getElem? hc0)
    cases c0 <;> try exact ho.elim
    case bp T j => exact box_frame h hr ho
    case fp row => exact fp_frame h.frm hr
  | bp T j =>
    have := box_frame (H' := fun _ => .dead) (g' := Gh.nil) h (T := T) (j := j) hx hok
    simp only [frzC, frzBox] at this ⊢
    split at this
    · exact this
    · exact this.elim
  | fp row => exact fp_frame h.frm (g := g) (H := H) (H' := fun _ => .dead) (g' := Gh.nil) hx
  | bs T j n e =>
    refine bs_frame h hx hok fun cs hT k u hk hu => ?_
    obtain ⟨x, hx⟩ : ∃ x, cs[k]? = some x := ⟨_, List.getElem?_eq_getElem hk⟩
    obtain ⟨cur, e0, hw, _, _⟩ := h.box T cs hT
    exact ⟨(Array.getElem?_eq_some_iff.1 hw).1, fun h => h, hu⟩
  | np => exact hok.elim
  | agg => exact hok.elim
  | tup => exact hok.elim
  | _ => exact hx

theorem frz_rel (h : HRel P E g H w) {x : VV} {u : Value} (hx : VRel P E H g x u) (hok : frzOk H x) : ARel P (botEnv w) (fun _ => .dead) Gh.nil (frzA H x) u := by
  by_cases ha : ∃ vs, x = .agg vs
  · obtain ⟨vs, rfl⟩ := ha
    obtain ⟨cs, h1, h2, h3⟩ := hx
    refine ⟨cs, h1, by simpa using h2, fun j c u hc hu => ?_⟩
    simp only [List.getElem?_map, Option.map_eq_some_iff] at hc
    obtain ⟨c0, hc0, rfl⟩ := hc
    exact frzC_rel h (h3 j c0 u hc0 hu) (hok c0 (List.mem_of_getElem? hc0))
  · have hne : ∀ vs, x ≠ .agg vs := fun vs hh => ha ⟨vs, hh⟩
    have hnt : ∀ vs, x ≠ .tup vs := fun vs hh => by subst hh; exact hok
    rw [vrel_eq hnt, arel_eq hne] at hx
    have h1 : frzA H x = frzC H x := by cases x <;> first | rfl | exact absurd rfl (hne _)
    have h2 : frzOkC H x := by cases x <;> first | exact hok | exact absurd rfl (hne _)
    rw [h1]
    exact arel_of_crel (frzC_rel h hx h2)

/-! ### What comes back -/
def addH (n : Nat) (l : List (TypeId × List (List PT))) (H : Heap) : Heap :=
  match l with
  | [] => H
  | (e, rows) :: l => addH (n + 1) l (updH n (.root e rows) H)

theorem addH_eq : ∀ (l : List (TypeId × List (List PT))) (n : Nat) (H : Heap) (T : Nat), addH n l H T = if n ≤ T ∧ T < n + l.length then Hp l (T - n) else H T
  | [], n, H, T => by simp [addH]; omega
  | (e, rows) :: l, n, H, T => by
    simp only [addH]
    rw [addH_eq l (n + 1) (updH n (.root e rows) H) T]
    by_cases h1 : T = n
    · subst h1
      rw [if_neg (by omega), if_pos (by simp), updH_same]
      simp [Hp]
    · rw [updH_ne _ _ h1]
      by_cases h2 : n ≤ T ∧ T < n + (l.length + 1)
      · rw [if_pos (by omega), if_pos (by simpa using h2)]
        obtain ⟨k, rfl⟩ : ∃ k, T = n + 1 + k := ⟨T - (n + 1), by omega⟩
        rw [show n + 1 + k - (n + 1) = k by omega, show n + 1 + k - n = k + 1 by omega]
        simp [Hp]
      · rw [if_neg (by omega), if_neg (by simpa using h2)]

def Gh.imp (g g' : Gh) (n k sz : Nat) : Gh :=
  { hd := fun T p => if n ≤ T ∧ T < n + k then g'.hd (T - n) p else g.hd T p
    bx := g.bx
    own := fun b => if b < sz then g.own b else (g'.own b).map fun x => (n + x.1, x.2)
    ob := g.ob
    sn := fun T => if n ≤ T ∧ T < n + k then g'.sn (T - n) else g.sn T }

theorem imp_crel {l : List (TypeId × List (List PT))} {n sz : Nat} (hk : ∀ T, l.length ≤ T → g'.sn T = false) {x : VV} {v : Value} {E' : Env} (ho : outC x = true) (h : CRel P E' (Hp l) g' x v) :
    CRel P E (addH n l H) (g.imp g' n l.length sz) (shC n x) v := by
  cases x <;> first | exact h | (simp [outC] at ho; done) | skip
  case rf T m =>
    obtain ⟨h1, h2, h3⟩ := h
    have hlt : T < l.length := by
      rcases Nat.lt_or_ge T l.length with hh | hh
      · exact hh
      · rw [hk T hh] at h1; cases h1
    have hc : n ≤ n + T ∧ n + T < n + l.length := by omega
    refine ⟨by simp only [Gh.imp, if_pos hc, Nat.add_sub_cancel_left]; exact h1, h2, fun hr => ?_⟩
    rw [addH_eq, if_pos hc, Nat.add_sub_cancel_left] at hr
    have := h3 hr
    simp only [Gh.imp, if_pos hc, Nat.add_sub_cancel_left]
    exact this

theorem outA_spec {x : VV} (h : outA x = true) : (∃ vs, x = .agg vs ∧ ∀ c ∈ vs, outC c = true) ∨ ((∀ vs, x ≠ .agg vs) ∧ outC x = true) := by
  cases x with
  | agg vs => exact .inl ⟨vs, rfl, by simpa [outA] using h⟩
  | _ => exact .inr ⟨fun _ hh => (by cases hh), h⟩

theorem imp_arel {l : List (TypeId × List (List PT))} {n sz : Nat} (hk : ∀ T, l.length ≤ T → g'.sn T = false) {x : VV} {v : Value} {E' : Env} (ho : outA x = true) (h : ARel P E' (Hp l) g' x v) :
    ARel P E (addH n l H) (g.imp g' n l.length sz) (shA n x) v := by
  rcases outA_spec ho with ⟨vs, rfl, hvs⟩ | ⟨hne, hoc⟩
  · obtain ⟨cs, h1, h2, h3⟩ := h
    refine ⟨cs, h1, by simpa using h2, fun j c u hc hu => ?_⟩
    simp only [List.getElem?_map, Option.map_eq_some_iff] at hc
    obtain ⟨c0, hc0, rfl⟩ := hc
    exact imp_crel hk (hvs c0 (List.mem_of_getElem? hc0)) (h3 j c0 u hc0 hu)
  · rw [arel_eq hne] at h
    have : shA n x = shC n x := by cases x <;> first | rfl | exact absurd rfl (hne _)
    rw [this]
    exact arel_of_crel (imp_crel hk hoc h)

theorem imp_vrel {l : List (TypeId × List (List PT))} {n sz : Nat} (hk : ∀ T, l.length ≤ T → g'.sn T = false) {x : VV} {v : Value} {E' : Env} (ho : outV x = true) (h : VRel P E' (Hp l) g' x v) :
    VRel P E (addH n l H) (g.imp g' n l.length sz) (shV n x) v := by
  by_cases ht : ∃ vs, x = .tup vs
  · obtain ⟨vs, rfl⟩ := ht
    obtain ⟨cs, h1, h2, h3⟩ := h
    refine ⟨cs, h1, by simpa using h2, fun j c u hc hu => ?_⟩
    simp only [List.getElem?_map, Option.map_eq_some_iff] at hc
    obtain ⟨c0, hc0, rfl⟩ := hc
    have ho' : outA c0 = true := by
      simp only [outV, List.all_eq_true] at ho
      exact ho c0 (List.mem_of_getElem? hc0)
    exact imp_arel hk ho' (h3 j c0 u hc0 hu)
  · have hne : ∀ vs, x ≠ .tup vs := fun vs hh => ht ⟨vs, hh⟩
    rw [vrel_eq hne] at h
    have h1 : shV n x = shA n x := by cases x <;> first | rfl | exact absurd rfl (hne _)
    have h2 : outA x = true := by cases x <;> first | exact ho | exact absurd rfl (hne _)
    rw [h1]
    exact vrel_of_arel (imp_arel hk h2 h)

theorem hrel_import (h : HRel P E g H w) {l : List (TypeId × List (List PT))} {n : Nat} (hn : ∀ T, n ≤ T → T < n + l.length → g.sn T = false)
    (h' : HRel P (botEnv w) g' (Hp l) w') (hp : ∀ x ∈ l, PurRows x.2) :
    HRel P E (g.imp g' n l.length w.heap.size) (addH n l H) w' ∧ HLe g H (g.imp g' n l.length w.heap.size) (addH n l H) := by
  have hsn : ∀ T, g.sn T = true → ¬ (n ≤ T ∧ T < n + l.length) := fun T hT hh => by rw [hn T hh.1 hh.2] at hT; cases hT
  have hle : HLe g H (g.imp g' n l.length w.heap.size) (addH n l H) := by
    refine ⟨fun T hT => ?_, fun T e rows hT hh => ?_, fun T hT hh => ?_, fun T hT _ => ?_, fun T hT _ => rfl⟩
    · simp only [Gh.imp, if_neg (hsn T hT)]; exact hT
    · rw [addH_eq, if_neg (hsn T hT)] at hh; exact ⟨rows, hh⟩
    · rwa [addH_eq, if_neg (hsn T hT)] at hh
    · simp only [Gh.imp, if_neg (hsn T hT)]
  have hfr : Frm E w' := h.frm.step h'.frm.os h'.frm.tape h'.frm.output h'.frm.size fun b hb => .inl (frm_bot h'.frm (Nat.lt_of_lt_of_le hb h.frm.size))
  refine ⟨⟨hfr, fun T e rows hT p e2 rows2 hat => ?_, fun T cs hT => ?_, fun T hT => ?_⟩, hle⟩
  · rw [addH_eq] at hT
    by_cases c : n ≤ T ∧ T < n + l.length
    · rw [if_pos c] at hT
      have hpur : PurRows rows := by
        simp only [Hp] at hT
        split at hT
        · rename_i e0 rows0 hl
          injection hT with e1 e2
          subst e2
          exact hp _ (List.mem_of_getElem? hl)
        · cases hT
      have hpur2 : PurRows rows2 := pur_at p (.list e rows) (.list _ _ hpur) e2 rows2 hat
      have hhd : ∀ q, (g.imp g' n l.length w.heap.size).hd T q = g'.hd (T - n) q := fun q => by simp only [Gh.imp, if_pos c]
      rcases h'.node (T - n) e rows hT p e2 rows2 hat with ⟨h1, h2⟩ | ⟨b, cap, cur, h1, h2, h3, h4, h5, h6, h7, h8⟩
      · exact .inl ⟨by rw [hhd]; exact h1, h2⟩
      · have hb : w.heap.size ≤ b := by
          rcases h3 with h3 | h3
          · exact h3
          · exact (h3 0).elim
        refine .inr ⟨b, cap, cur, by rw [hhd]; exact h1, ?_, .inl (Nat.le_trans h.frm.size hb), h4, h5, h6, h7, fun i r hr => ?_⟩
        · simp only [Gh.imp, if_neg (Nat.not_lt.2 hb), h2, Option.map_some]
          rw [Nat.add_sub_cancel' c.1]
        · obtain ⟨h9, h10⟩ := h8 i r hr
          refine ⟨h9, fun j x hx => ?_⟩
          obtain ⟨u, h11, h12⟩ := h10 j x hx
          refine ⟨u, h11, ?_⟩
          rw [hhd]
          have := hpur2 r (List.mem_of_getElem? hr) x (List.mem_of_getElem? hx)
          cases this <;> exact h12
    · rw [if_neg c] at hT
      refine node_mono hle (h.node T e rows hT p e2 rows2 hat) (fun q => by simp only [Gh.imp, if_neg c]) (fun b hb ho => ?_) (fun b hb _ => frm_bot h'.frm hb)
      simp only [Gh.imp, if_pos hb]; exact ho
  · rw [addH_eq] at hT
    by_cases c : n ≤ T ∧ T < n + l.length
    · rw [if_pos c] at hT
      simp only [Hp] at hT
      split at hT <;> cases hT
    · rw [if_neg c] at hT
      have hb := h.box T cs hT
      have hlt : (g.bx T).1 < w.heap.size := by
        obtain ⟨cur, e1, h1, _⟩ := hb
        exact (Array.getElem?_eq_some_iff.1 h1).1
      exact box_mono hle hb rfl (fun hh => by simp only [Gh.imp, if_pos hlt]; exact hh) (fun _ _ hh => hh) (fun cur e he => ⟨cur, by rw [frm_bot h'.frm hlt]; exact he, fun _ _ _ => rfl⟩)
  · rw [addH_eq] at hT
    by_cases c : n ≤ T ∧ T < n + l.length
    · rw [if_pos c] at hT
      simp only [Gh.imp, if_pos c]
      exact h'.seen _ hT
    · rw [if_neg c] at hT
      simp only [Gh.imp, if_neg c]
      exact h.seen T hT

/-- The state behind a call. -/
def St.imp (s : St) (l : List (TypeId × List (List PT))) : St := { s with H := addH s.nx l s.H, nx := s.nx + l.length }

theorem rel_import (h : Rel P E g s a w) {l : List (TypeId × List (List PT))} (hr : s.room l.length = true) (h' : HRel P (botEnv w) g' (Hp l) w') (hk : ∀ T, l.length ≤ T → g'.sn T = false) (hp : ∀ x ∈ l, PurRows x.2)
    {v : VV} {val : Value} (ho : outV v = true) (hv : VRel P (botEnv w) (Hp l) g' v val) :
    ∃ g2, Rel P E g2 (s.imp l) a w' ∧ HLe g s.H g2 (s.imp l).H ∧ (∀ T, (s.nx ≤ T → s.nx + l.length ≤ T) → g2.sn T = g.sn T) ∧ VRel P E (s.imp l).H g2 (shV s.nx v) val := by
  obtain ⟨h1, h2⟩ := hrel_import h.heap (n := s.nx) (fun T ha hb => fresh_at h hr ha hb) h' hp
  refine ⟨_, rel_step (n' := s.nx + l.length) h h2 h1 (fun T hT => ?_), h2, fun T hT => ?_, imp_vrel hk ho hv⟩
  rotate_left
  · have : ¬ (s.nx ≤ T ∧ T < s.nx + l.length) := by omega
    simp only [Gh.imp, if_neg this]
  obtain ⟨f1, f2⟩ := fresh_on (Nat.le_add_right _ _) hT
  have : ¬ (s.nx ≤ T ∧ T < s.nx + l.length) := by omega
  simp only [Gh.imp, if_neg this]
  exact h.fresh T f1
end
end Go.Proofs.Ytclljpdcpcolpaa
