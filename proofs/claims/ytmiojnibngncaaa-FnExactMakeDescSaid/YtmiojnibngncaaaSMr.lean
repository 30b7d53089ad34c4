/- The program's MakeDesc returns what the reference's returns, whatever the arguments, and leaves what it is handed: no condition. -/
import Derived.Test.YtmiojnibngncaaaRows
import Derived.Test.YtmiojnibngncaaaSMl
import Derived.Test.YtmiojnibngncaaaEc
import Derived.Test.YtmiojnibngncaaaChecked
import Derived.OpenShut
namespace Go.Proofs.Ytmiojnibngncaaa
open Go Go.ChangeShapes Go.WideShapes Go.ChangeAt Go.RowKit
set_option linter.unusedVariables false
set_option linter.unusedSimpArgs false

theorem own : ownKnob Try.prog.godebug = none := by kernel_rfl
theorem laidOut : laidOutB Try.prog = true := by kernel_rfl

theorem pty_entL {n : Nat} {r : List PT} (h : PTy ty (n + 2) 98 r) : ∃ e : EntS, r = e.enc := by
  simp only [PTy_st ty_98, PTyF_cons, PTyF_nil, PTy_it ty_3, PTy_bo ty_4] at h
  obtain ⟨_, _, rfl, ⟨o, rfl, _⟩, _, _, rfl, ⟨v, rfl, _⟩, _, _, rfl, ⟨ol, rfl, _⟩, _, _, rfl, ⟨nw, rfl, _⟩, _, _, rfl, ⟨b, rfl⟩, rfl⟩ := h
  exact ⟨⟨o, v, ol, nw, b⟩, rfl⟩
theorem pty_entsL {n : Nat} : ∀ {rows : List (List PT)}, (∀ r ∈ rows, PTy ty (n + 2) 98 r) → ∃ es : List EntS, rows = rowsE es
  | [], _ => ⟨[], rfl⟩
  | r :: rows, h => by
    obtain ⟨e, rfl⟩ := pty_entL (h r (List.mem_cons_self ..))
    obtain ⟨es, rfl⟩ := pty_entsL fun r hr => h r (List.mem_cons_of_mem _ hr)
    exact ⟨e :: es, rfl⟩
theorem pty_entS {cells : List PT} (h : PTy ty 8 33 cells) : ∃ es : List EntS, argVV ty 33 cells = .fr 98 (rowsE es) ∧ es.length ≤ 9223372036854775807 := by
  simp only [PTy_sl ty_33] at h
  obtain ⟨rows, rfl, hl, hr⟩ := h
  obtain ⟨es, rfl⟩ := pty_entsL (n := 5) hr
  rw [rowsE_len] at hl
  exact ⟨es, rfl, by simp only [maxLen] at hl; omega⟩
theorem pty_int {cells : List PT} (h : PTy ty 8 3 cells) : ∃ n : Int, argVV ty 3 cells = .int .i64 n ∧ True := by
  simp only [PTy_it ty_3] at h
  obtain ⟨n, rfl, _⟩ := h
  exact ⟨n, rfl, trivial⟩

set_option maxRecDepth 100000 in
theorem lifted (os : Os) (started : os.Started) (H : Type) (enc : TypeId × Value → H) :
    ReturnsInHanded {} Try.checked os 4 .any (Rows.fnExactMakeDescSpec.pre6 enc Try.prog Try.f4 Rows.fnExactMakeDescRow.domain false) (Rows.fnExactMakeDescSpec.post enc Try.prog Try.f4 false true false false) := by
  refine returnsInHanded_of_change (C := Try.checked) own started (by kernel_rfl) Try.func4
    (ChangeSpec.witness6 (enc := enc) (C := Try.checked) false ⟨#[], #[.int .i64 0, .slice none 0 0], []⟩ 8 (by kernel_rfl) (by kernel_rfl) (by kernel_rfl) (by kernel_rfl)) ?_
  intro W base args ds gs before hval0 hW hcnd _
  have hval : ∀ (j : Nat) t v, Try.f4.params[j]? = some t → args[j]? = some v → Value.okWide Try.prog W .any base t v := hval0
  have hW' := hW
  obtain ⟨p, q, hA0, hV, rfl, hfz, hnd⟩ := hW
  have hA : DataW.TrodAll enc Try.prog W 0 (fun _ => true) true Try.f4.params.toList args.toList ds p := hA0
  rw [Try.params4] at hA hval
  obtain ⟨v0, vs0, e0, ds0, p0, q0, hargs, rfl, rfl, h0, hA⟩ := trodAll_cons hA
  obtain ⟨v1, vs1, e1, ds1, p1, q1, rfl, rfl, rfl, h1, hA⟩ := trodAll_cons hA
  obtain ⟨rfl, rfl, rfl⟩ := trodAll_nil hA
  have hargs : args = #[v0, v1] := by cases args; simp_all
  subst hargs
  obtain ⟨rfl, rfl⟩ := trodVars_none hV
  obtain ⟨cells0, hc0, hr0⟩ := arg_read hT (n := 8) (by decide +kernel) (hval 0 3 v0 rfl rfl) h0
  obtain ⟨D0, hd0, L0⟩ := pty_int hc0
  rw [hd0] at hr0
  obtain ⟨cells1, hc1, hr1⟩ := arg_read hT (n := 8) (by decide +kernel) (hval 1 33 v1 rfl rfl) h1
  obtain ⟨D1, hd1, L1⟩ := pty_entS hc1
  rw [hd1] at hr1
  refine ((makeLaw_ok D0 D1 L1).run W [v0, v1] rfl (fun j x u hx hu => ?_)).mono fun e W' he => ?_
  · match j with
    | 0 => simp only [List.getElem?_cons_zero, List.getElem?_cons_succ, Option.some.injEq] at hx hu; subst hx; subst hu; exact hr0
    | 1 => simp only [List.getElem?_cons_zero, List.getElem?_cons_succ, Option.some.injEq] at hx hu; subst hx; subst hu; exact hr1
    | j + 2 => simp at hx
  · obtain ⟨val, g', rfl, hrel, _, hv⟩ := he
    obtain rfl : val = .bool true := hv
    have hb := below_of hrel.frm
    have hlt : ∀ x ∈ (p0 ++ (p1 ++ [])), x.block < W.heap.size := fun x hx => hW'.lt x (List.mem_append_left _ hx)
    exact ⟨_, rfl, post_below (pa := (p0 ++ (p1 ++ []))) (pv := []) hW' (fun _ _ _ => trodAll_mk1 (shut_bool Try.underlying4 _))
      (fun sp hs => (trodAll_cons_mk (stays_one laidOut (by kernel_rfl) (of_decide_eq_true (by kernel_rfl)) h0 hb (fun x hx => hlt x (by simp [hx])) (fun x hx => hs x (by simp [hx]))) (trodAll_cons_mk (stays_one laidOut (by kernel_rfl) (of_decide_eq_true (by kernel_rfl)) h1 hb (fun x hx => hlt x (by simp [hx])) (fun x hx => hs x (by simp [hx]))) trodAll_mk0))) (fun _ _ => rfl) rfl
      hb (ok_one (by kernel_rfl) rfl (okWide_bool_mk Try.underlying4 _))⟩

theorem fnExactMakeDesc_holds : Rows.FnExactMakeDescSaid :=
  OpenClaim.holds_of_wide 4 Try.f4 rfl rfl rfl rfl rfl rfl rfl ⟨rfl, rfl, rfl, rfl, rfl⟩ rfl rfl rfl rfl rfl (by kernel_rfl) Try.func4 (by kernel_rfl)
    (of_decide_eq_true (by kernel_rfl)) (by unfold Func.isWrapper; first | (rw [if_pos (by decide +kernel)]; kernel_rfl) | (rw [if_neg (by decide +kernel)]; exact ⟨rfl, rfl⟩))
    (fun os started H enc _ => lifted os started H enc)
end Go.Proofs.Ytmiojnibngncaaa
