/- slices.Sort and slices.Compact on numbers: the library's contracts as ours. -/
import Derived.Test.YtmiojnibngncaaaEc
import Derived.Test.YtmiojnibngncaaaSQ
import Derived.Test.YtmiojnibngncaaaShelf
namespace Go.Proofs.Ytmiojnibngncaaa
open Go Go.RowKit Go.Sort
set_option linter.unusedVariables false
set_option linter.unusedSimpArgs false

theorem rowsN_at2 {zs : List Int} {p : Path} {e e' : TypeId} {rows : List (List PT)} (h : At p (.list e (rowsN zs)) = some (e', rows)) : p = [] ∧ e' = e ∧ rows = rowsN zs := by
  cases p with
  | nil => simp only [At, Option.some.injEq, Prod.mk.injEq] at h; exact ⟨rfl, h.1.symm, h.2.symm⟩
  | cons x p =>
    obtain ⟨i, j⟩ := x
    exfalso
    simp only [At] at h
    cases hz : zs[i]? with
    | none => simp [rowsN, hz] at h
    | some z =>
      have : (rowsN zs)[i]? = some [.int .i64 z] := rowsN_at hz
      rw [this] at h
      simp only [Option.getD_some] at h
      cases j with
      | zero => cases p with
        | nil => simp [At] at h
        | cons y p => obtain ⟨a, b⟩ := y; simp [At] at h
      | succ j => simp at h

section
variable {P : Program} {E : Env} {g : Gh} {w : World}

theorem frozen0 {b o : Nat} {cur : Array Value} {e : TypeId} (h : w.heap[b]? = some (.cells cur e (0, 0))) : w.frozen? ⟨b, o, none⟩ = false := by
  simp [World.frozen?, h]

/-- Behind a call that lays other numbers in place. -/
theorem hrel_put {e : TypeId} {zs ds : List Int} {b cap : Nat} {cur : Array Value} (hw : E.w0 = w) (hl : ds.length = zs.length) (hd : g.hd 0 [] = .slice (some ⟨b, 0, none⟩) zs.length cap) (hown : g.own b = some (0, [])) (ho : E.w0.heap.size ≤ b ∨ ∀ o, E.own b o)
    (hb : w.heap[b]? = some (.cells cur e (0, 0))) (hc : zs.length ≤ cap) (hm : cap ≤ maxLen) (hs : cur.size = cap * P.cellsOf e) (h1 : zs = [] ∨ P.cellsOf e = 1) (hsn : g.sn 0 = true) (n : Nat) (os : Array Obj) :
    HRel P E g (HpE [.root e (rowsN ds)]) (grow (putRow (Value.int .i64) (Sort.ahead w n) b 0 ds.toArray) os) ∧ HLe g (HpE [.root e (rowsN zs)]) g (HpE [.root e (rowsN ds)]) := by
  have hlt : b < w.heap.size := (Array.getElem?_eq_some_iff.1 hb).1
  have hall : ∀ o, E.own b o := by
    rcases ho with ho | ho
    · rw [hw] at ho; omega
    · exact ho
  have hheap : ∀ i, i < w.heap.size → (grow (putRow (Value.int .i64) (Sort.ahead w n) b 0 ds.toArray) os).heap[i]? = if i = b then some (.cells (putCells (Value.int .i64) 0 ds.toArray cur) e (0, 0)) else w.heap[i]? := by
    intro i hi
    simp only [grow, putRow, mapBlock, Sort.ahead]
    rw [Array.getElem?_append_left (by simpa using hi)]
    rw [Array.getElem?_modify]
    by_cases h : i = b
    · subst h
      rw [if_pos rfl, if_pos rfl, hb]
      rfl
    · rw [if_neg (fun hh => h hh.symm), if_neg h]
  have hsz : w.heap.size ≤ (grow (putRow (Value.int .i64) (Sort.ahead w n) b 0 ds.toArray) os).heap.size := by simp [grow, putRow, mapBlock, Sort.ahead]
  have hget : ∀ j, j < ds.length → j < cur.size → (putCells (Value.int .i64) 0 ds.toArray cur)[j]? = some (.int .i64 (ds.toArray[j]!)) := by
    intro j hj hj2
    simp only [putCells]
    rw [Array.getElem?_mapIdx, Array.getElem?_eq_getElem hj2]
    simp [hj]
  refine ⟨⟨⟨by simp [hw, grow, putRow, mapBlock, Sort.ahead], by simp [hw, grow, putRow, mapBlock, Sort.ahead], by simp [hw, grow, putRow, mapBlock, Sort.ahead], by rw [hw]; exact hsz, fun i c t fz hi => ?_, fun i x hi hx => ?_⟩, fun T t rows hT p t2 rows2 hp => ?_, fun T cs hT => ?_, fun T hT => ?_⟩, ?_⟩
  · rw [hw] at hi
    have hil := (Array.getElem?_eq_some_iff.1 hi).1
    rw [hheap i hil]
    by_cases h : i = b
    · subst h
      rw [hb] at hi
      injection hi with hi
      injection hi with e1 e2 e3
      subst e1; subst e2; subst e3
      exact ⟨_, if_pos rfl, by simp [putCells], fun o hh => absurd (hall o) hh⟩
    · rw [if_neg h]
      exact ⟨c, hi, rfl, fun _ _ => rfl⟩
  · rw [hw] at hi
    have hil := (Array.getElem?_eq_some_iff.1 hi).1
    rw [hheap i hil]
    by_cases h : i = b
    · subst h
      rw [hb] at hi
      injection hi with hi
      exact absurd hi.symm (hx _ _ _)
    · rw [if_neg h]; exact hi
  · cases T with
    | succ T => simp [HpE] at hT
    | zero =>
      simp only [HpE, List.getElem?_cons_zero, Option.getD_some, Ent.root.injEq] at hT
      obtain ⟨rfl, rfl⟩ := hT
      obtain ⟨rfl, rfl, rfl⟩ := rowsN_at2 hp
      refine .inr ⟨b, cap, _, by rw [hd, rowsN_len, hl], hown, ho, by rw [hheap b hlt, if_pos rfl], by rw [rowsN_len, hl]; exact hc, hm, by simpa [putCells] using hs, fun i r hr => ?_⟩
      obtain ⟨z, hz⟩ : ∃ z, ds[i]? = some z := by
        cases hz : ds[i]? with
        | none => simp [rowsN, hz] at hr
        | some z => exact ⟨z, rfl⟩
      rw [rowsN_at hz] at hr
      cases hr
      have hil := (List.getElem?_eq_some_iff.1 hz).1
      have hk : P.cellsOf t2 = 1 := by
        rcases h1 with h1 | h1
        · subst h1; simp at hl; subst hl; simp at hil
        · exact h1
      refine ⟨by rw [hk]; rfl, fun j c hj => ?_⟩
      cases j with
      | succ j => simp at hj
      | zero =>
        simp only [List.getElem?_cons_zero, Option.some.injEq] at hj
        subst hj
        refine ⟨_, by rw [hk]; simp only [Nat.mul_one, Nat.add_zero]; exact hget i hil (by rw [hs, hk]; omega), ?_⟩
        show Value.int .i64 (ds.toArray[i]!) = .int .i64 z
        obtain ⟨h5, h6⟩ := List.getElem?_eq_some_iff.1 hz
        simp [h5, h6]
  · cases T with
    | zero => simp [HpE] at hT
    | succ T => simp [HpE] at hT
  · cases T with
    | zero => exact hsn
    | succ T => simp [HpE, Ent.live] at hT
  · refine ⟨fun T h => h, fun T t rows h hr => ?_, fun T h hr => ?_, fun T _ _ => rfl, fun T _ _ => rfl⟩
    · cases T with
      | zero => simp only [HpE, List.getElem?_cons_zero, Option.getD_some, Ent.root.injEq] at hr; obtain ⟨rfl, _⟩ := hr; exact ⟨_, rfl⟩
      | succ T => simp [HpE] at hr
    · cases T with
      | zero => rfl
      | succ T => simp [HpE, Ent.live] at hr

/-- A contract of the library's in place, as ours. -/
theorem satO_put {f : FuncId} {e : TypeId} {zs ds : List Int} {v : VV} (k : Nat → Option Addr → Nat → Value) (hf : ∃ fn, P.funcs[f]? = some fn ∧ (fn.name == "runtime.NumGoroutine") = false ∧ fn.body.isNone = false) (hout : outV v = true) (hl : ds.length = zs.length) (hle : zs.length ≤ 1048576)
    (h0 : ∀ (a : Option Addr) (cap : Nat) (w : World), zs = [] → Calls P f #[.slice a 0 cap] w fun e w' => e = .returned (k 0 a cap) ∧ w' = w)
    (h1 : ∀ (b cap : Nat) (w : World), Holds (Value.int .i64) w b 0 zs.toArray → b < w.heap.size → zs.length ≤ cap → Calls P f #[.slice (some ⟨b, 0, none⟩) zs.length cap] w fun e w' => e = .returned (k zs.length (some ⟨b, 0, none⟩) cap) ∧ ∃ n os, w' = grow (putRow (Value.int .i64) (Sort.ahead w n) b 0 ds.toArray) os)
    (hv : ∀ (E : Env) (g : Gh) (a : Option Addr) (cap : Nat), g.hd 0 [] = .slice a zs.length cap → g.sn 0 = true → VRel P E (HpE [.root e (rowsN ds)]) g v (k zs.length a cap)) :
    SatO P f [.rf 0 zs.length] [.root e (rowsN zs)] v [.root e (rowsN ds)] := by
  refine ⟨hf, hout, by simp, fun i x y hx hy => ?_, fun i y hi hy => ?_, fun E g w vals hw h hfr hlen hargs => ?_⟩
  · cases i with
    | zero =>
      simp only [List.getElem?_cons_zero, Option.some.injEq] at hx hy
      subst hx; subst hy
      exact ⟨rfl, rowsN_pur _⟩
    | succ i => simp at hx
  · simp at hi
    rw [List.getElem?_eq_none (by simpa using hi)] at hy
    cases hy
  · obtain ⟨u, rfl⟩ : ∃ u, vals = [u] := by
      cases vals with
      | nil => simp at hlen
      | cons u vs => cases vs with
        | nil => exact ⟨u, rfl⟩
        | cons => simp at hlen
    have hu := hargs 0 (.rf 0 zs.length) u rfl rfl
    obtain ⟨q1, q2, q3⟩ : CRel P E (HpE [.root e (rowsN zs)]) g (.rf 0 zs.length) u := hu
    have q3 := q3 rfl
    rcases h.node 0 e (rowsN zs) rfl [] e (rowsN zs) rfl with ⟨k1, k2⟩ | ⟨b, cap, cur, k1, k2, k3, k4, k5, k6, k7, k8⟩
    · have hz : zs = [] := by
        have := rowsN_len zs
        rw [k2] at this
        exact List.eq_nil_of_length_eq_zero this.symm
      have hds : ds = [] := List.eq_nil_of_length_eq_zero (by rw [hl, hz]; rfl)
      rw [k1] at q3
      subst hz
      have q3 : u = .slice none 0 0 := q3
      subst q3
      refine (h0 none 0 w rfl).mono fun ex w' he => ?_
      obtain ⟨rfl, rfl⟩ := he
      subst hds
      exact ⟨_, g, rfl, h, hfr, ⟨fun T h => h, fun T t rows h hr => ⟨rows, hr⟩, fun T h hr => hr, fun T _ _ => rfl, fun T _ _ => rfl⟩, hv E g none 0 k1 q1⟩
    · rw [rowsN_len] at k1 k5
      rw [k1] at q3
      have q3 : u = .slice (some ⟨b, 0, none⟩) zs.length cap := q3
      subst q3
      have hk : zs = [] ∨ P.cellsOf e = 1 := by
        cases zs with
        | nil => exact .inl rfl
        | cons z zs => exact .inr (by have := (k8 0 [.int .i64 z] rfl).1; simpa using this.symm)
      have hH : Holds (Value.int .i64) w b 0 zs.toArray := by
        intro j hj
        have hj : j < zs.length := by simpa using hj
        have hz := List.getElem?_eq_getElem hj
        obtain ⟨m1, m2⟩ := k8 j _ (rowsN_at hz)
        obtain ⟨x, m3, m4⟩ := m2 0 _ rfl
        have hk1 : P.cellsOf e = 1 := by
          rcases hk with hk | hk
          · subst hk; simp at hj
          · exact hk
        rw [hk1] at m3
        have m4 : x = .int .i64 zs[j] := m4
        subst m4
        refine ⟨?_, frozen0 k4⟩
        rw [cell_of_heap k4 (u := .int .i64 zs[j]) (by simpa using m3)]
        simp [hj]
      refine (h1 b cap w hH (Array.getElem?_eq_some_iff.1 k4).1 k5).mono fun ex w' he => ?_
      obtain ⟨rfl, n, os, rfl⟩ := he
      obtain ⟨r1, r2⟩ := hrel_put hw hl k1 k2 k3 k4 k5 k6 k7 hk q1 n os
      exact ⟨_, g, rfl, r1, hfr, r2, hv E g _ cap k1 q1⟩
end

theorem sortI_ok (zs : List Int) (hl : zs.length ≤ 1048576) : SatO Try.prog 72 [.rf 0 zs.length] [.root 3 (rowsN zs)] (.tup []) [.root 3 (rowsN (zs.mergeSort fun x y => decide (x ≤ y)))] := by
  refine satO_put (fun _ _ _ => .tuple #[]) ⟨_, Try.func72, by kernel_rfl, by kernel_rfl⟩ rfl (by simp) hl (fun a cap w hz => ?_) (fun b cap w hH hb hc => ?_) (fun E g a cap _ _ => ⟨[], rfl, rfl, fun j c u hc => by simp at hc⟩)
  · exact Try.slices_Sort_int_none a cap w
  · exact Try.slices_Sort_int b 0 cap zs w hH hb (by omega)
theorem compact_len (zs : List Int) : (Lib.compact zs).length ≤ zs.length := Lib.compact_length_le zs
theorem compactI_ok (zs : List Int) (hl : zs.length ≤ 1048576) : SatO Try.prog 73 [.rf 0 zs.length] [.root 3 (rowsN zs)] (.rf 0 (Lib.compact zs).length) [.root 3 (rowsN (Lib.compact zs ++ List.replicate (zs.length - (Lib.compact zs).length) 0))] := by
  have hlen := compact_len zs
  refine satO_put (fun n a cap => .slice a (Lib.compact zs).length cap) ⟨_, Try.func73, by kernel_rfl, by kernel_rfl⟩ rfl (by simp; omega) hl (fun a cap w hz => ?_) (fun b cap w hH hb hc => ?_) (fun E g a cap h1 h2 => ?_)
  · subst hz
    exact Try.slices_Compact_int_empty a cap w
  · refine (Try.slices_Compact_int b 0 cap zs w hH (by omega) hc).mono fun e w' he => ?_
    obtain ⟨rfl, q, rfl⟩ := he
    exact ⟨rfl, q, #[], by rw [grow_empty]⟩
  · refine ⟨h2, rfl, fun _ => ?_⟩
    rw [h1]
    rfl
end Go.Proofs.Ytmiojnibngncaaa
