/- The program's WriteProg returns what the reference's returns, whatever the argument, and leaves what it is handed: no condition beside the card's (the tables read as the program's text lays them). -/
import Derived.Test.YtchkbgekmoileaaDoorCards
import Derived.Test.YtchkbgekmoileaaDoorTie
import Derived.Test.YtchkbgekmoileaaDoorRows
import Derived.Test.YtchkbgekmoileaaDoorSW4
import Derived.Test.YtchkbgekmoileaaDoorEc
import Derived.Test.YtchkbgekmoileaaDoorChecked
import Derived.OpenShut
import Derived.Deep.DeepHandedRow
import Derived.Lib.LaidTab
import Derived.Stop.LaidErr
namespace Go.Proofs.YtchkbgekmoileaaDoor
open Go Go.ChangeShapes Go.WideShapes Go.ChangeAt Go.RowKit
set_option linter.unusedVariables false
set_option linter.unusedSimpArgs false

theorem own : ownKnob Tryd.prog.godebug = none := by kernel_rfl
theorem laidOut : laidOutB Tryd.prog = true := by kernel_rfl

theorem pty_insL {n : Nat} {r : List PT} (h : PTy ty (n + 2) 55 r) : ∃ e : InsS, r = e.enc := by
  simp only [PTy_st ty_55, PTyF_cons, PTyF_nil, PTy_it ty_3] at h
  obtain ⟨_, _, rfl, ⟨o, rfl, _⟩, _, _, rfl, ⟨a, rfl, _⟩, _, _, rfl, ⟨b, rfl, _⟩, rfl⟩ := h
  exact ⟨⟨o, a, b⟩, rfl⟩
theorem pty_inssL {n : Nat} : ∀ {rows : List (List PT)}, (∀ r ∈ rows, PTy ty (n + 2) 55 r) → ∃ es : List InsS, rows = rowsI es
  | [], _ => ⟨[], rfl⟩
  | r :: rows, h => by
    obtain ⟨e, rfl⟩ := pty_insL (h r (List.mem_cons_self ..))
    obtain ⟨es, rfl⟩ := pty_inssL fun r hr => h r (List.mem_cons_of_mem _ hr)
    exact ⟨e :: es, rfl⟩
theorem pty_progL {cells : List PT} (h : PTy ty 8 33 cells) : ∃ d : List InsS, argVV ty 33 cells = .fr 55 (rowsI d) ∧ d.length ≤ 9223372036854775807 := by
  simp only [PTy_sl ty_33] at h
  obtain ⟨rows, rfl, hl, hr⟩ := h
  obtain ⟨es, rfl⟩ := pty_inssL (n := 5) hr
  rw [rowsI_len] at hl
  exact ⟨es, rfl, by simp only [maxLen] at hl; omega⟩

/-- An array of strings that reads as a table holds the table's strings. -/
theorem cells_of_strs {H : Type} {enc : TypeId × Value → H} {P : Program} {w : World} {base : Nat} {sp : Nat → Bool} {held : Bool} {fuel : Nat} {t e : TypeId} {n : Nat} {cs : List Value} {zs : List (List UInt8)} {p : List MemPlace}
    (ht : P.underlying t = some (.array n e)) (he : P.underlying e = some .string) (hce : P.cellsOf e = 1) (hct : P.cellsOf t = n)
    (h : DataW.trod enc P w base sp held fuel t cs = some (.agg (zs.map fun z => .lit (.string z)), p)) : cs = zs.map fun z => Value.string ⟨z.toArray⟩ := by
  cases fuel with
  | zero => simp [DataW.trod] at h
  | succ fuel =>
    simp only [DataW.trod, ht, hce, hct, Nat.mul_one] at h
    split at h
    · rename_i hl
      obtain ⟨xs, hm, hx⟩ := Option.map_eq_some_iff.1 h
      have hxs : xs.map (·.1) = zs.map fun z => (DataW.lit (.string z) : DataW H) := by
        have := congrArg Prod.fst hx
        simpa using this
      have hxl : xs.length = n := by simpa using Lib.mapM_length hm
      have hzl : zs.length = n := by
        have := congrArg List.length hxs
        simp at this
        omega
      apply List.ext_getElem?
      intro i
      by_cases hi : i < n
      · obtain ⟨b, hb, hf⟩ := Lib.mapM_at hm i i (by simp [hi])
        obtain ⟨z, hc, rfl, _⟩ := DataW.trod_string he hf
        have h1 : cs[i]? = some (.string z) := by
          have := congrArg (·[0]?) hc
          simpa [List.getElem?_take, List.getElem?_drop] using this
        have h2 : (xs.map (·.1))[i]? = some (DataW.lit (.string z.data.toList) : DataW H) := by simp [hb]
        rw [hxs] at h2
        simp only [List.getElem?_map, Option.map_eq_some_iff, DataW.lit.injEq, Lit.string.injEq] at h2
        obtain ⟨z', hz', rfl⟩ := h2
        simp [h1, hz']
      · rw [List.getElem?_eq_none (by omega), List.getElem?_eq_none (by simp; omega)]
    · cases h
def opStrs : List (List UInt8) := [[], [114, 101, 97, 100], [119, 114, 105, 116, 101], [115, 101, 116], [97, 100, 100], [105, 102], [99, 111, 109, 109, 105, 116], [97, 98, 111, 114, 116], [103, 111]]
/-- What the row's list gives: the cells of the tables. -/
theorem table {W : World} (h : laidMetH Tryd.prog Rows.fnExactWriteProgRow.laid W) : GoodW W := by
  have hm : laidMet Tryd.prog Rows.fnExactWriteProgRow.laid W := h
  have ht : Lib.TabIs Tryd.prog W "internal/strconv.uint64pow10" .u64 Lib.pow10Tab :=
    Lib.tabIs_of_head (g := 1) (by kernel_rfl) (by kernel_rfl) Tryd.underlying81 Tryd.underlying75 (by kernel_rfl) (by kernel_rfl) (laidMet.tail (laidMet.tail hm))
  have hg : Tryd.prog.globalNamed "internal/strconv.uint64pow10" = some 1 := by kernel_rfl
  have hN : ∃ e fz, W.heap[1]? = some (Obj.cells (Lib.pow10Tab.map fun z => Value.int .u64 z).toArray e fz) := by
    unfold Lib.TabIs World.var? at ht
    rw [hg] at ht
    simp only [Option.bind_some] at ht
    split at ht
    · rename_i cs e fz hw
      injection ht with ht
      exact ⟨e, fz, by rw [hw, ht]⟩
    · cases ht
  have hO : ∃ e fz, W.heap[0]? = some (Obj.cells (opStrs.map fun z => Value.string ⟨z.toArray⟩).toArray e fz) := by
    obtain ⟨ps, ⟨g', t', cs, fuel, p, q, hg', ht', hvar, hd, _, _⟩, _⟩ := laidMet.tail (laidMet.tail (laidMet.tail hm))
    obtain rfl : g' = 0 := (Option.some.inj ((show Tryd.prog.globalNamed "loop.example/g00087/impl.opWords" = some 0 by kernel_rfl).symm.trans hg')).symm
    obtain rfl : t' = 70 := (Option.some.inj ((show (Tryd.prog.globals[0]?).map (·.type) = some 70 by kernel_rfl).symm.trans ht')).symm
    have hcs := cells_of_strs (zs := opStrs) Tryd.underlying70 Tryd.underlying9 (by kernel_rfl) (by kernel_rfl) hd
    unfold World.var? at hvar
    rw [hg'] at hvar
    simp only [Option.bind_some] at hvar
    split at hvar
    · rename_i cs2 e fz hw
      injection hvar with hvar
      subst hvar
      refine ⟨e, fz, ?_⟩
      rw [hw, ← hcs]
    · cases hvar
  have key : ∀ (b : Nat) (row : List PT) (cs : List Value), goodRow b = some row → row.map PT.val = cs.map some → (∃ e fz, W.heap[b]? = some (Obj.cells cs.toArray e fz)) → (∀ o u, goodC b o = some u → b < W.heap.size ∧ W.cell? ⟨b, o, none⟩ = some u) ∧ ∃ c e fz, W.heap[b]? = some (Obj.cells c e fz) ∧ c.size = row.length := by
    rintro b row cs hrow hval ⟨e, fz, hw⟩
    have hlen : row.length = cs.length := by simpa using congrArg List.length hval
    refine ⟨fun o u hu => ⟨(Array.getElem?_eq_some_iff.1 hw).1, ?_⟩, cs.toArray, e, fz, hw, by simpa using hlen.symm⟩
    simp only [goodC, hrow] at hu
    cases hc : row[o]? with
    | none => rw [hc] at hu; cases hu
    | some c =>
      rw [hc] at hu
      have h1 := congrArg (·[o]?) hval
      simp only [List.getElem?_map, hc, Option.map_some, hu] at h1
      cases hx : cs[o]? with
      | none => rw [hx] at h1; cases h1
      | some x =>
        rw [hx] at h1
        simp only [Option.map_some, Option.some.injEq] at h1
        subst h1
        simp [World.cell?, hw, hx]
  have k0 := key 0 _ _ rfl (by rfl) hO
  have k1 := key 1 _ _ rfl (by rfl) hN
  refine ⟨fun b o u hu => ?_, fun b n hn => ?_⟩
  · by_cases h0 : b = 0
    · subst h0; exact k0.1 o u hu
    · by_cases h1 : b = 1
      · subst h1; exact k1.1 o u hu
      · simp [goodC, goodRow, h0, h1] at hu
  · by_cases h0 : b = 0
    · subst h0
      obtain ⟨c, e, fz, q1, q2⟩ := k0.2
      injection hn with hn
      exact ⟨c, e, fz, q1, q2.trans hn⟩
    · by_cases h1 : b = 1
      · subst h1
        obtain ⟨c, e, fz, q1, q2⟩ := k1.2
        injection hn with hn
        exact ⟨c, e, fz, q1, q2.trans hn⟩
      · simp [goodN, goodRow, h0, h1] at hn

theorem contract (H : Type) (enc : TypeId × Value → H) (W : World) (base : Nat) (args : Array Value) (ds gs : List (DataW H)) (before : List MemPlace)
    (hval : ∀ (j : Nat) t v, Tryd.f4.params[j]? = some t → args[j]? = some v → Value.okWide Tryd.prog W .any base t v)
    (hW : DataW.Whole enc Tryd.prog Tryd.f4.params.toList Rows.fnExactWriteProgSpec.vars false W args.toList ds gs before) (hL : laidMetH Tryd.prog Rows.fnExactWriteProgRow.laid W) :
    Calls Tryd.prog 4 args W fun e W' => ∃ v, e = .returned v ∧ Rows.fnExactWriteProgSpec.post enc Tryd.prog Tryd.f4 false true false false W args v W' := by
  have hW' := hW
  obtain ⟨p, q, hA0, hV, rfl, hfz, hnd⟩ := hW
  have hA : DataW.TrodAll enc Tryd.prog W 0 (fun _ => true) true Tryd.f4.params.toList args.toList ds p := hA0
  rw [Tryd.params4] at hA hval
  obtain ⟨v0, vs0, e0, ds0, p0, q0, hargs, rfl, rfl, h0, hA⟩ := trodAll_cons hA
  obtain ⟨rfl, rfl, rfl⟩ := trodAll_nil hA
  have hargs : args = #[v0] := by cases args; simp_all
  subst hargs
  obtain ⟨gv, tv, csv, fuel, dv, pv, rfl, hgv, htv, hvar, hdv, rfl⟩ := trodVars_one hV
  obtain rfl : gv = 0 := (Option.some.inj ((show Tryd.prog.globalNamed "loop.example/g00087/impl.opWords" = some 0 by kernel_rfl).symm.trans hgv)).symm
  obtain rfl : tv = 70 := (Option.some.inj ((show (Tryd.prog.globals[0]?).map (·.type) = some 70 by kernel_rfl).symm.trans htv)).symm
  obtain ⟨cells, hc, hr⟩ := arg_read hT (n := 8) (by decide +kernel) (hval 0 33 v0 rfl rfl) h0
  obtain ⟨d, hd, hl⟩ := pty_progL hc
  rw [hd] at hr
  refine ((writeLaw_ok d hl).run W (table hL) [v0] rfl (fun j x u hx hu => ?_)).mono fun e W' he => ?_
  · cases j with
    | zero => simp only [List.getElem?_cons_zero, Option.some.injEq] at hx hu; subst hx; subst hu; exact hr
    | succ j => simp at hx
  · obtain ⟨val, g', rfl, hrel, _, hv⟩ := he
    obtain rfl : val = .bool true := hv
    have hb := below_of hrel.frm
    have hlt : ∀ x ∈ (p0 ++ []), x.block < W.heap.size := fun x hx => hW'.lt x (List.mem_append_left _ hx)
    have hltv : ∀ x ∈ MemPlace.row ⟨0, 0, none⟩ csv.size ++ pv, x.block < W.heap.size := fun x hx => hW'.lt x (List.mem_append_right _ hx)
    have h0lt : 0 < W.heap.size := by
      unfold World.var? at hvar
      rw [hgv] at hvar
      simp only [Option.bind_some] at hvar
      split at hvar
      · rename_i hw
        exact (Array.getElem?_eq_some_iff.1 hw).1
      · cases hvar
    have hvar' : W'.var? Tryd.prog "loop.example/g00087/impl.opWords" = some csv := by
      unfold World.var? at hvar ⊢
      rw [hgv] at hvar ⊢
      simp only [Option.bind_some] at hvar ⊢
      rw [frm_bot hrel.frm h0lt]
      exact hvar
    exact ⟨_, rfl, post_below (pa := (p0 ++ [])) (pv := MemPlace.row ⟨0, 0, none⟩ csv.size ++ pv) hW' (fun _ _ _ => trodAll_mk1 (shut_bool Tryd.underlying4 _))
      (fun sp hs => (trodAll_cons_mk (stays_one laidOut (by kernel_rfl) (of_decide_eq_true (by kernel_rfl)) h0 hb (fun x hx => hlt x (by simp [hx])) (fun x hx => hs x (by simp [hx]))) trodAll_mk0)) (fun sp hs => trodVars_mk1 hgv htv hvar' (DataW.trod_stays (kids_book laidOut (by kernel_rfl)) (book_sized (by kernel_rfl)) (fun h => by cases h) ⟨of_decide_eq_true (by kernel_rfl), book_self 70⟩ hdv (fun x hx => hb.same (hltv x (List.mem_append_right _ hx))) (fun x hx => hs x (List.mem_append_right _ (List.mem_append_right _ hx))))) rfl
      hb (ok_one (by kernel_rfl) rfl (okWide_bool_mk Tryd.underlying4 _))⟩

/-- A block of cells that holds these. -/
def setC (b : Nat) (cs : Array Value) (h : Array Obj) : Array Obj := h.modify b fun
  | .cells _ t frozen => .cells cs t frozen
  | o => o
/-- A world for the witness: the settled one, the tables holding what their initialisers lay. -/
noncomputable def laidWorld (os : Os) : World :=
  { World.holding Tryd.prog os ⟨#[], #[], []⟩ with heap := setC 3 (#[0, 1, 56, 2, 57, 49, 28, 3, 61, 58, 42, 50, 38, 29, 17, 4, 62, 47, 59, 36, 45, 43, 51, 22, 53, 39, 33, 30, 24, 18, 12, 5, 63, 55, 48, 27, 60, 41, 37, 16, 46, 35, 44, 21, 52, 32, 23, 11, 54, 26, 40, 15, 34, 20, 31, 10, 25, 14, 19, 9, 13, 8, 7, 6].map fun z => Value.int .u8 z) (setC 2 (#[0, 1, 28, 2, 29, 14, 24, 3, 30, 22, 20, 15, 25, 17, 4, 8, 31, 27, 13, 23, 21, 19, 16, 7, 26, 12, 18, 6, 11, 5, 10, 9].map fun z => Value.int .u8 z) (setC 1 (Lib.pow10Tab.map fun z => Value.int .u64 z).toArray (setC 0 (opStrs.map fun z => Value.string ⟨z.toArray⟩).toArray (World.holding Tryd.prog os ⟨#[], #[], []⟩).heap))) }
theorem laid_met (os : Os) : laidMet Tryd.prog Rows.fnExactWriteProgRow.laid ((laidWorld os).forCall (fun _ _ => 0) ⟨#[], #[.slice none 0 0], []⟩).memory :=
  laidMet_of_run' 8 (by kernel_rfl) (by kernel_rfl)
theorem reads (os : Os) {H : Type} (enc : TypeId × Value → H) : ∃ places, DataW.whole enc Tryd.prog ((laidWorld os).forCall (fun _ _ => 0) ⟨#[], #[.slice none 0 0], []⟩).memory Tryd.f4.params.toList Rows.fnExactWriteProgSpec.vars false #[Value.slice none 0 0].toList 8 = some ([.nil], [Rows.laid_loop_example_g00087_impl_opWords], places) :=
  ⟨[.cell 0 0, .cell 0 1, .cell 0 2, .cell 0 3, .cell 0 4, .cell 0 5, .cell 0 6, .cell 0 7, .cell 0 8], by kernel_rfl⟩

set_option maxRecDepth 100000 in
theorem lifted (os : Os) (started : os.Started) (H : Type) (enc : TypeId × Value → H) (F : Stop.Interp) :
    ReturnsInHanded {} Tryd.checked os 4 .any ((OpenSpec.ofChange Rows.fnExactWriteProgSpec).preRow enc Tryd.prog Tryd.f4 Rows.fnExactWriteProgRow.domain false Rows.fnExactWriteProgRow.laid) (((OpenSpec.ofChange Rows.fnExactWriteProgSpec).at F).post enc Tryd.prog Tryd.f4 false true false false) := by
  obtain ⟨places, hx⟩ := reads os enc
  refine returnsInHanded_of_row (C := Tryd.checked) (s := OpenSpec.ofChange Rows.fnExactWriteProgSpec) own started (by kernel_rfl) Tryd.func4
    (witness_row_at (enc := enc) (C := Tryd.checked) false (laidWorld os) #[.slice none 0 0] rfl (by kernel_rfl) (by kernel_rfl) (by kernel_rfl)
      (OpenSpec.preRow_of_cond 8 hx (by kernel_rfl) (fun k hk => by cases hk) (by kernel_rfl) (laid_met os))) ?_
  intro W base args ds gs before hval hW _ _ _ hL _ _
  exact contract H enc W base args ds gs before hval hW hL

theorem said : Rows.FnExactWriteProgSaid :=
  OpenClaim.holds_of_cond 4 Tryd.f4 rfl rfl rfl rfl rfl rfl rfl ⟨rfl, rfl, rfl, rfl, rfl⟩ rfl rfl rfl rfl rfl (by kernel_rfl) Tryd.func4 (by kernel_rfl)
    (of_decide_eq_true (by kernel_rfl)) (by unfold Func.isWrapper; first | (rw [if_pos (by decide +kernel)]; kernel_rfl) | (rw [if_neg (by decide +kernel)]; exact ⟨rfl, rfl⟩))
    (fun os started H enc _ F => by rw [OpenClaim.pre_eq_preRow]; exact lifted os started H enc F)

/-- No parameter wants a stand-in; the program's own looks are off. -/
theorem plain (f : FuncId) (fn : Func) (hf : Tryd.pinned.checked.prog.funcNamed "loop.example/g00087/laws.FnExactWriteProg" = some f) (hfn : Tryd.pinned.checked.prog.funcs[f]? = some fn) :
    false = Tryd.pinned.checked.prog.looks [] ∧ ∀ (j : Nat) t, fn.params[j]? = some t → Tryd.pinned.checked.prog.wantsStandIn t = false := by
  obtain rfl : f = 4 := Option.some.inj ((show Tryd.prog.funcNamed "loop.example/g00087/laws.FnExactWriteProg" = some 4 by kernel_rfl).symm.trans hf) |>.symm
  obtain rfl : fn = Tryd.f4 := (Option.some.inj (Tryd.func4.symm.trans hfn)).symm
  refine ⟨by kernel_rfl, fun j t ht => ?_⟩
  rw [Tryd.params4] at ht
  obtain rfl : t = 33 := by simpa using Array.mem_of_getElem? ht
  exact (show Tryd.prog.wantsStandIn 33 = false by kernel_rfl)

theorem fnExactWriteProg_holds : Rows.FnExactWriteProgCardSaid :=
  Claim7.holds_tied_plain_at .later [] _ _ _ _ said (fun _ h => by cases h) (by kernel_rfl) (fun _ h => by cases h) fnExactWriteProg_row_tie rfl ⟨rfl, rfl⟩ (by kernel_rfl) rfl plain (by kernel_rfl)
end Go.Proofs.YtchkbgekmoileaaDoor
