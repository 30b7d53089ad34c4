/- The program's Meets returns what the reference's returns, whatever the argument: no condition. -/
import Derived.Test.YtdlhmofplehpgaaRows
import Derived.Test.YtdlhmofplehpgaaDH
import Derived.Test.YtdlhmofplehpgaaEngW
import Derived.Test.YtdlhmofplehpgaaChecked
import Derived.OpenShut
namespace Go.Proofs.Ytdlhmofplehpgaa
open Go Go.ChangeShapes Go.WideShapes Go.ChangeAt Go.RowKit
set_option linter.unusedVariables false
set_option linter.unusedSimpArgs false

theorem own : ownKnob Try.prog.godebug = none := by kernel_rfl
theorem laidOut : laidOutB Try.prog = true := by kernel_rfl

theorem pty_entL {n : Nat} {r : List PT} (h : PTy ty (n + 2) 68 r) : ∃ e : EntS, r = e.enc := by
  simp only [PTy_st ty_68, PTyF_cons, PTyF_nil, PTy_it ty_3, PTy_bo ty_4] at h
  obtain ⟨_, _, rfl, ⟨o, rfl, _⟩, _, _, rfl, ⟨v, rfl, _⟩, _, _, rfl, ⟨ol, rfl, _⟩, _, _, rfl, ⟨nw, rfl, _⟩, _, _, rfl, ⟨b, rfl⟩, rfl⟩ := h
  exact ⟨⟨o, v, ol, nw, b⟩, rfl⟩
theorem pty_entsL {n : Nat} : ∀ {rows : List (List PT)}, (∀ r ∈ rows, PTy ty (n + 2) 68 r) → ∃ es : List EntS, rows = rowsE es
  | [], _ => ⟨[], rfl⟩
  | r :: rows, h => by
    obtain ⟨e, rfl⟩ := pty_entL (h r (List.mem_cons_self ..))
    obtain ⟨es, rfl⟩ := pty_entsL fun r hr => h r (List.mem_cons_of_mem _ hr)
    exact ⟨e :: es, rfl⟩
theorem pty_descL {cells : List PT} (h : PTy ty 8 31 cells) : ∃ d : DescS, argVV ty 31 cells = .agg (d.cells 68) ∧ d.entries.length ≤ 9223372036854775807 := by
  simp only [PTy_st ty_31, PTyF_cons, PTyF_nil, PTy_it ty_3, PTy_sl ty_29] at h
  obtain ⟨_, _, rfl, ⟨o, rfl, _⟩, _, _, rfl, ⟨s, rfl, _⟩, _, _, rfl, ⟨rows, rfl, hl, hr⟩, rfl⟩ := h
  obtain ⟨es, rfl⟩ := pty_entsL (n := 4) hr
  rw [rowsE_len] at hl
  exact ⟨⟨o, s, es⟩, rfl, by simp only [maxLen] at hl; omega⟩

set_option maxRecDepth 100000 in
theorem lifted (os : Os) (started : os.Started) (H : Type) (enc : TypeId × Value → H) :
    ReturnsInHanded {} Try.checked os 6 .any (Rows.fnExactMeetsSpec.pre6 enc Try.prog Try.f6 Rows.fnExactMeetsRow.domain false) (Rows.fnExactMeetsSpec.post enc Try.prog Try.f6 false true false false) := by
  refine returnsInHanded_of_change (C := Try.checked) own started (by kernel_rfl) Try.func6
    (ChangeSpec.witness6 (enc := enc) (C := Try.checked) false ⟨#[], #[.agg #[.int .i64 0, .int .i64 0, .slice none 0 0], .agg #[.int .i64 0, .int .i64 0, .slice none 0 0]], []⟩ 8 (by kernel_rfl) (by kernel_rfl) (by kernel_rfl) (by kernel_rfl)) ?_
  intro W base args ds gs before hval0 hW hcnd _
  have hval : ∀ (j : Nat) t v, Try.f6.params[j]? = some t → args[j]? = some v → Value.okWide Try.prog W .any base t v := hval0
  have hW' := hW
  obtain ⟨p, q, hA0, hV, rfl, hfz, hnd⟩ := hW
  have hA : DataW.TrodAll enc Try.prog W 0 (fun _ => true) true Try.f6.params.toList args.toList ds p := hA0
  rw [Try.params6] at hA hval
  obtain ⟨v0, v1, d0, d1, p0, p1, rfl, rfl, rfl, h0, h1⟩ := trodAll_two hA
  obtain ⟨rfl, rfl⟩ := trodVars_none hV
  obtain ⟨cells, hc, hr⟩ := arg_read hT (n := 8) (by decide +kernel) (hval 0 31 v0 rfl rfl) h0
  obtain ⟨cells1, hc1, hr1⟩ := arg_read hT (n := 8) (by decide +kernel) (hval 1 31 v1 rfl rfl) h1
  obtain ⟨d, hd, hl⟩ := pty_descL hc
  obtain ⟨d', hd', hl'⟩ := pty_descL hc1
  rw [hd] at hr
  rw [hd'] at hr1
  refine ((meetsLaw_ok d d' hl hl').run W [v0, v1] rfl (fun j x u hx hu => ?_)).mono fun e W' he => ?_
  · match j with
    | 0 => simp only [List.getElem?_cons_zero, Option.some.injEq] at hx hu; subst hx; subst hu; exact hr
    | 1 => simp only [List.getElem?_cons_zero, List.getElem?_cons_succ, Option.some.injEq] at hx hu; subst hx; subst hu; exact hr1
    | j + 2 => simp at hx
  · obtain ⟨val, g', rfl, hrel, _, hv⟩ := he
    obtain rfl : val = .bool true := hv
    have hb := below_of hrel.frm
    have hlt : ∀ x ∈ p0 ++ p1, x.block < W.heap.size := fun x hx => hW'.lt x (List.mem_append_left _ hx)
    exact ⟨_, rfl, post_below (pa := p0 ++ p1) (pv := []) hW' (fun _ _ _ => trodAll_mk1 (shut_bool Try.underlying4 _))
      (fun sp hs => trodAll_mk2 (stays_one laidOut (by kernel_rfl) (of_decide_eq_true (by kernel_rfl)) h0 hb (fun x hx => hlt x (List.mem_append_left _ hx)) (fun x hx => hs x (List.mem_append_left _ (List.mem_append_left _ hx))))
        (stays_one laidOut (by kernel_rfl) (of_decide_eq_true (by kernel_rfl)) h1 hb (fun x hx => hlt x (List.mem_append_right _ hx)) (fun x hx => hs x (List.mem_append_left _ (List.mem_append_right _ hx))))) (fun _ _ => rfl) rfl
      hb (ok_one (by kernel_rfl) rfl (okWide_bool_mk Try.underlying4 _))⟩

theorem fnExactMeets_holds : Rows.FnExactMeetsSaid :=
  OpenClaim.holds_of_wide 6 Try.f6 rfl rfl rfl rfl rfl rfl rfl ⟨rfl, rfl, rfl, rfl, rfl⟩ rfl rfl rfl rfl rfl (by kernel_rfl) Try.func6 (by kernel_rfl)
    (of_decide_eq_true (by kernel_rfl)) (by unfold Func.isWrapper; first | (rw [if_pos (by decide +kernel)]; kernel_rfl) | (rw [if_neg (by decide +kernel)]; exact ⟨rfl, rfl⟩))
    (fun os started H enc _ => lifted os started H enc)
end Go.Proofs.Ytdlhmofplehpgaa
