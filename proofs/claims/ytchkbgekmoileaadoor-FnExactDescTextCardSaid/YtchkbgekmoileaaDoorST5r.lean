/- The program's DescText returns what the reference's returns, whatever the argument, and leaves what it is handed: no condition beside the card's (the library's tables read as the program's text lays them). -/
import Derived.Test.YtchkbgekmoileaaDoorCards
import Derived.Test.YtchkbgekmoileaaDoorTie
import Derived.Test.YtchkbgekmoileaaDoorRows
import Derived.Test.YtchkbgekmoileaaDoorST5
import Derived.Test.YtchkbgekmoileaaDoorEc
import Derived.Test.YtchkbgekmoileaaDoorChecked
import Derived.OpenShut
import Derived.Deep.DeepHandedRow
import Derived.Lib.LaidTab
import Derived.Stop.LaidErr
namespace Go.Proofs.YtchkbgekmoileaaDoor
open Go Go.ChangeShapes Go.WideShapes Go.ChangeAt Go.RowKit
set_option linter.unusedVariables false
set_option linter.unusedSimpArgs false

theorem own : ownKnob Tryd.prog.godebug = none := by kernel_rfl
theorem laidOut : laidOutB Tryd.prog = true := by kernel_rfl

theorem pty_entL {n : Nat} {r : List PT} (h : PTy ty (n + 2) 61 r) : ∃ e : EntS, r = e.enc := by
  simp only [PTy_st ty_61, PTyF_cons, PTyF_nil, PTy_it ty_3, PTy_bo ty_4] at h
  obtain ⟨_, _, rfl, ⟨o, rfl, _⟩, _, _, rfl, ⟨v, rfl, _⟩, _, _, rfl, ⟨ol, rfl, _⟩, _, _, rfl, ⟨nw, rfl, _⟩, _, _, rfl, ⟨b, rfl⟩, rfl⟩ := h
  exact ⟨⟨o, v, ol, nw, b⟩, rfl⟩
theorem pty_entsL {n : Nat} : ∀ {rows : List (List PT)}, (∀ r ∈ rows, PTy ty (n + 2) 61 r) → ∃ es : List EntS, rows = rowsE es
  | [], _ => ⟨[], rfl⟩
  | r :: rows, h => by
    obtain ⟨e, rfl⟩ := pty_entL (h r (List.mem_cons_self ..))
    obtain ⟨es, rfl⟩ := pty_entsL fun r hr => h r (List.mem_cons_of_mem _ hr)
    exact ⟨e :: es, rfl⟩
theorem pty_descL {cells : List PT} (h : PTy ty 8 24 cells) : ∃ d : DescS, argVV ty 24 cells = .agg (d.cells 61) ∧ d.entries.length ≤ 9223372036854775807 := by
  simp only [PTy_st ty_24, PTyF_cons, PTyF_nil, PTy_it ty_3, PTy_sl ty_22] at h
  obtain ⟨_, _, rfl, ⟨o, rfl, _⟩, _, _, rfl, ⟨s, rfl, _⟩, _, _, rfl, ⟨rows, rfl, hl, hr⟩, rfl⟩ := h
  obtain ⟨es, rfl⟩ := pty_entsL (n := 4) hr
  rw [rowsE_len] at hl
  exact ⟨⟨o, s, es⟩, rfl, by simp only [maxLen] at hl; omega⟩

/-- What the row's list gives: the cells of the table. -/
theorem table {W : World} (h : laidMetH Tryd.prog Rows.fnExactDescTextRow.laid W) : GoodW W := by
  have ht : Lib.TabIs Tryd.prog W "internal/strconv.uint64pow10" .u64 Lib.pow10Tab :=
    Lib.tabIs_of_head (rest := []) (g := 1) (by kernel_rfl) (by kernel_rfl) Tryd.underlying81 Tryd.underlying75 (by kernel_rfl) (by kernel_rfl) (laidMet.tail (laidMet.tail (show laidMet Tryd.prog Rows.fnExactDescTextRow.laid W from h)))
  have hg : Tryd.prog.globalNamed "internal/strconv.uint64pow10" = some 1 := by kernel_rfl
  have hN : ∃ cs e fz, W.heap[1]? = some (Obj.cells cs e fz) ∧ cs.size = 20 := by
    unfold Lib.TabIs World.var? at ht
    rw [hg] at ht
    simp only [Option.bind_some] at ht
    split at ht
    · rename_i cs e fz hw
      injection ht with ht
      exact ⟨cs, e, fz, hw, by rw [ht]; rfl⟩
    · cases ht
  refine ⟨fun b o u hu => ?_, fun b n hn => ?_⟩
  · unfold goodC at hu
    split at hu
    · rename_i hb
      subst hb
      have hlt : 1 < W.heap.size := by
        obtain ⟨cs, e, fz, hw, _⟩ := hN
        exact (Array.getElem?_eq_some_iff.1 hw).1
      refine ⟨hlt, ?_⟩
      have ho : o < 20 := by
        have := (List.getElem?_eq_some_iff.1 hu).1
        simpa using this
      have hc := ht.cell hg o ho
      rw [hc]
      match o, ho with
      | k + 20, h => exact absurd h (by omega)
      | 0, _ | 1, _ | 2, _ | 3, _ | 4, _ | 5, _ | 6, _ | 7, _ | 8, _ | 9, _ | 10, _ | 11, _ | 12, _ | 13, _ | 14, _ | 15, _ | 16, _ | 17, _ | 18, _ | 19, _ => exact hu
    · cases hu
  · unfold goodN at hn
    split at hn
    · rename_i hb
      subst hb
      injection hn with hn
      subst hn
      exact hN
    · cases hn

theorem contract (H : Type) (enc : TypeId × Value → H) (W : World) (base : Nat) (args : Array Value) (ds gs : List (DataW H)) (before : List MemPlace)
    (hval : ∀ (j : Nat) t v, Tryd.f3.params[j]? = some t → args[j]? = some v → Value.okWide Tryd.prog W .any base t v)
    (hW : DataW.Whole enc Tryd.prog Tryd.f3.params.toList Rows.fnExactDescTextSpec.vars false W args.toList ds gs before) (hL : laidMetH Tryd.prog Rows.fnExactDescTextRow.laid W) :
    Calls Tryd.prog 3 args W fun e W' => ∃ v, e = .returned v ∧ Rows.fnExactDescTextSpec.post enc Tryd.prog Tryd.f3 false true false false W args v W' := by
  have hW' := hW
  obtain ⟨p, q, hA0, hV, rfl, hfz, hnd⟩ := hW
  have hA : DataW.TrodAll enc Tryd.prog W 0 (fun _ => true) true Tryd.f3.params.toList args.toList ds p := hA0
  rw [Tryd.params3] at hA hval
  obtain ⟨v0, vs0, e0, ds0, p0, q0, hargs, rfl, rfl, h0, hA⟩ := trodAll_cons hA
  obtain ⟨rfl, rfl, rfl⟩ := trodAll_nil hA
  have hargs : args = #[v0] := by cases args; simp_all
  subst hargs
  obtain ⟨rfl, rfl⟩ := trodVars_none hV
  obtain ⟨cells, hc, hr⟩ := arg_read hT (n := 8) (by decide +kernel) (hval 0 24 v0 rfl rfl) h0
  obtain ⟨d, hd, hl⟩ := pty_descL hc
  rw [hd] at hr
  refine ((textLaw_ok d hl).run W (table hL) [v0] rfl (fun j x u hx hu => ?_)).mono fun e W' he => ?_
  · cases j with
    | zero => simp only [List.getElem?_cons_zero, Option.some.injEq] at hx hu; subst hx; subst hu; exact hr
    | succ j => simp at hx
  · obtain ⟨val, g', rfl, hrel, _, hv⟩ := he
    obtain rfl : val = .bool true := hv
    have hb := below_of hrel.frm
    have hlt : ∀ x ∈ (p0 ++ []), x.block < W.heap.size := fun x hx => hW'.lt x (List.mem_append_left _ hx)
    exact ⟨_, rfl, post_below (pa := (p0 ++ [])) (pv := []) hW' (fun _ _ _ => trodAll_mk1 (shut_bool Tryd.underlying4 _))
      (fun sp hs => (trodAll_cons_mk (stays_one laidOut (by kernel_rfl) (of_decide_eq_true (by kernel_rfl)) h0 hb (fun x hx => hlt x (by simp [hx])) (fun x hx => hs x (by simp [hx]))) trodAll_mk0)) (fun _ _ => rfl) rfl
      hb (ok_one (by kernel_rfl) rfl (okWide_bool_mk Tryd.underlying4 _))⟩

/-- A block of cells that holds these. -/
def setC (b : Nat) (cs : Array Value) (h : Array Obj) : Array Obj := h.modify b fun
  | .cells _ t frozen => .cells cs t frozen
  | o => o
/-- A world for the witness: the settled one, the tables holding what their initialisers lay. -/
noncomputable def laidWorld (os : Os) : World :=
  { World.holding Tryd.prog os ⟨#[], #[], []⟩ with heap := setC 3 (#[0, 1, 56, 2, 57, 49, 28, 3, 61, 58, 42, 50, 38, 29, 17, 4, 62, 47, 59, 36, 45, 43, 51, 22, 53, 39, 33, 30, 24, 18, 12, 5, 63, 55, 48, 27, 60, 41, 37, 16, 46, 35, 44, 21, 52, 32, 23, 11, 54, 26, 40, 15, 34, 20, 31, 10, 25, 14, 19, 9, 13, 8, 7, 6].map fun z => Value.int .u8 z) (setC 2 (#[0, 1, 28, 2, 29, 14, 24, 3, 30, 22, 20, 15, 25, 17, 4, 8, 31, 27, 13, 23, 21, 19, 16, 7, 26, 12, 18, 6, 11, 5, 10, 9].map fun z => Value.int .u8 z) (setC 1 (Lib.pow10Tab.map fun z => Value.int .u64 z).toArray (World.holding Tryd.prog os ⟨#[], #[], []⟩).heap)) }
theorem laid_met (os : Os) : laidMet Tryd.prog Rows.fnExactDescTextRow.laid ((laidWorld os).forCall (fun _ _ => 0) ⟨#[], #[.agg #[.int .i64 0, .int .i64 0, .slice none 0 0]], []⟩).memory :=
  laidMet_of_run' 8 (by kernel_rfl) (by kernel_rfl)
theorem reads (os : Os) {H : Type} (enc : TypeId × Value → H) : ∃ places, DataW.whole enc Tryd.prog ((laidWorld os).forCall (fun _ _ => 0) ⟨#[], #[.agg #[.int .i64 0, .int .i64 0, .slice none 0 0]], []⟩).memory Tryd.f3.params.toList Rows.fnExactDescTextSpec.vars false #[Value.agg #[.int .i64 0, .int .i64 0, .slice none 0 0]].toList 8 = some ([.agg [.lit (.int .i64 0), .lit (.int .i64 0), .nil]], [], places) :=
  ⟨[], by kernel_rfl⟩

set_option maxRecDepth 100000 in
theorem lifted (os : Os) (started : os.Started) (H : Type) (enc : TypeId × Value → H) (F : Stop.Interp) :
    ReturnsInHanded {} Tryd.checked os 3 .any ((OpenSpec.ofChange Rows.fnExactDescTextSpec).preRow enc Tryd.prog Tryd.f3 Rows.fnExactDescTextRow.domain false Rows.fnExactDescTextRow.laid) (((OpenSpec.ofChange Rows.fnExactDescTextSpec).at F).post enc Tryd.prog Tryd.f3 false true false false) := by
  obtain ⟨places, hx⟩ := reads os enc
  refine returnsInHanded_of_row (C := Tryd.checked) (s := OpenSpec.ofChange Rows.fnExactDescTextSpec) own started (by kernel_rfl) Tryd.func3
    (witness_row_at (enc := enc) (C := Tryd.checked) false (laidWorld os) #[.agg #[.int .i64 0, .int .i64 0, .slice none 0 0]] rfl (by kernel_rfl) (by kernel_rfl) (by kernel_rfl)
      (OpenSpec.preRow_of_cond 8 hx (by kernel_rfl) (fun k hk => by cases hk) (by kernel_rfl) (laid_met os))) ?_
  intro W base args ds gs before hval hW _ _ _ hL _ _
  exact contract H enc W base args ds gs before hval hW hL

theorem said : Rows.FnExactDescTextSaid :=
  OpenClaim.holds_of_cond 3 Tryd.f3 rfl rfl rfl rfl rfl rfl rfl ⟨rfl, rfl, rfl, rfl, rfl⟩ rfl rfl rfl rfl rfl (by kernel_rfl) Tryd.func3 (by kernel_rfl)
    (of_decide_eq_true (by kernel_rfl)) (by unfold Func.isWrapper; first | (rw [if_pos (by decide +kernel)]; kernel_rfl) | (rw [if_neg (by decide +kernel)]; exact ⟨rfl, rfl⟩))
    (fun os started H enc _ F => by rw [OpenClaim.pre_eq_preRow]; exact lifted os started H enc F)

/-- No parameter wants a stand-in; the program's own looks are off. -/
theorem plain (f : FuncId) (fn : Func) (hf : Tryd.pinned.checked.prog.funcNamed "loop.example/g00087/laws.FnExactDescText" = some f) (hfn : Tryd.pinned.checked.prog.funcs[f]? = some fn) :
    false = Tryd.pinned.checked.prog.looks [] ∧ ∀ (j : Nat) t, fn.params[j]? = some t → Tryd.pinned.checked.prog.wantsStandIn t = false := by
  obtain rfl : f = 3 := Option.some.inj ((show Tryd.prog.funcNamed "loop.example/g00087/laws.FnExactDescText" = some 3 by kernel_rfl).symm.trans hf) |>.symm
  obtain rfl : fn = Tryd.f3 := (Option.some.inj (Tryd.func3.symm.trans hfn)).symm
  refine ⟨by kernel_rfl, fun j t ht => ?_⟩
  rw [Tryd.params3] at ht
  obtain rfl : t = 24 := by simpa using Array.mem_of_getElem? ht
  exact (show Tryd.prog.wantsStandIn 24 = false by kernel_rfl)

theorem fnExactDescText_holds : Rows.FnExactDescTextCardSaid :=
  Claim7.holds_tied_plain_at .later [] _ _ _ _ said (fun _ h => by cases h) (by kernel_rfl) (fun _ h => by cases h) fnExactDescText_row_tie rfl ⟨rfl, rfl⟩ (by kernel_rfl) rfl plain (by kernel_rfl)
end Go.Proofs.YtchkbgekmoileaaDoor
