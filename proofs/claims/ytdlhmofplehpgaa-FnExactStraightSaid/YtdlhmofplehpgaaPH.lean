/- The program's Straight returns what the reference's returns, whatever the argument: no condition. -/
import Derived.Test.YtdlhmofplehpgaaRows
import Derived.Test.YtdlhmofplehpgaaPG
import Derived.Test.YtdlhmofplehpgaaEngW
import Derived.Test.YtdlhmofplehpgaaChecked
import Derived.OpenShut
namespace Go.Proofs.Ytdlhmofplehpgaa
open Go Go.ChangeShapes Go.WideShapes Go.ChangeAt Go.RowKit
set_option linter.unusedVariables false
set_option linter.unusedSimpArgs false

theorem own : ownKnob Try.prog.godebug = none := by kernel_rfl
theorem laidOut : laidOutB Try.prog = true := by kernel_rfl

theorem pty_insL {n : Nat} {r : List PT} (h : PTy ty (n + 2) 55 r) : ∃ e : InsS, r = e.enc := by
  simp only [PTy_st ty_55, PTyF_cons, PTyF_nil, PTy_it ty_3] at h
  obtain ⟨_, _, rfl, ⟨o, rfl, _⟩, _, _, rfl, ⟨v, rfl, _⟩, _, _, rfl, ⟨ol, rfl, _⟩, rfl⟩ := h
  exact ⟨⟨o, v, ol⟩, rfl⟩
theorem pty_insLs {n : Nat} : ∀ {rows : List (List PT)}, (∀ r ∈ rows, PTy ty (n + 2) 55 r) → ∃ es : List InsS, rows = rowsI es
  | [], _ => ⟨[], rfl⟩
  | r :: rows, h => by
    obtain ⟨e, rfl⟩ := pty_insL (h r (List.mem_cons_self ..))
    obtain ⟨es, rfl⟩ := pty_insLs fun r hr => h r (List.mem_cons_of_mem _ hr)
    exact ⟨e :: es, rfl⟩
theorem pty_progL {cells : List PT} (h : PTy ty 8 22 cells) : ∃ es : List InsS, argVV ty 22 cells = .fr 55 (rowsI es) ∧ es.length ≤ 9223372036854775807 := by
  simp only [PTy_sl ty_22] at h
  obtain ⟨rows, rfl, hl, hr⟩ := h
  obtain ⟨es, rfl⟩ := pty_insLs (n := 5) hr
  rw [rowsI_len] at hl
  exact ⟨es, rfl, by simp only [maxLen] at hl; omega⟩

set_option maxRecDepth 100000 in
theorem lifted (os : Os) (started : os.Started) (H : Type) (enc : TypeId × Value → H) :
    ReturnsInHanded {} Try.checked os 5 .any (Rows.fnExactStraightSpec.pre6 enc Try.prog Try.f5 Rows.fnExactStraightRow.domain false) (Rows.fnExactStraightSpec.post enc Try.prog Try.f5 false true false false) := by
  refine returnsInHanded_of_change (C := Try.checked) own started (by kernel_rfl) Try.func5
    (ChangeSpec.witness6 (enc := enc) (C := Try.checked) false ⟨#[], #[.slice none 0 0], []⟩ 8 (by kernel_rfl) (by kernel_rfl) (by kernel_rfl) (by kernel_rfl)) ?_
  intro W base args ds gs before hval0 hW hcnd _
  have hval : ∀ (j : Nat) t v, Try.f5.params[j]? = some t → args[j]? = some v → Value.okWide Try.prog W .any base t v := hval0
  have hW' := hW
  obtain ⟨p, q, hA0, hV, rfl, hfz, hnd⟩ := hW
  have hA : DataW.TrodAll enc Try.prog W 0 (fun _ => true) true Try.f5.params.toList args.toList ds p := hA0
  rw [Try.params5] at hA hval
  obtain ⟨v0, d0, rfl, rfl, h0⟩ := trodAll_one hA
  obtain ⟨rfl, rfl⟩ := trodVars_none hV
  obtain ⟨cells, hc, hr⟩ := arg_read hT (n := 8) (by decide +kernel) (hval 0 22 v0 rfl rfl) h0
  obtain ⟨d, hd, hl⟩ := pty_progL hc
  rw [hd] at hr
  refine ((straightLaw_ok d hl).run W [v0] rfl (fun j x u hx hu => ?_)).mono fun e W' he => ?_
  · cases j with
    | zero => simp only [List.getElem?_cons_zero, Option.some.injEq] at hx hu; subst hx; subst hu; exact hr
    | succ j => simp at hx
  · obtain ⟨val, g', rfl, hrel, _, hv⟩ := he
    obtain rfl : val = .bool true := hv
    have hb := below_of hrel.frm
    have hlt : ∀ x ∈ p, x.block < W.heap.size := fun x hx => hW'.lt x (List.mem_append_left _ hx)
    exact ⟨_, rfl, post_below (pa := p) (pv := []) hW' (fun _ _ _ => trodAll_mk1 (shut_bool Try.underlying4 _)) (fun sp hs => trodAll_mk1 (stays_one laidOut (by kernel_rfl) (of_decide_eq_true (by kernel_rfl)) h0 hb hlt (fun x hx => hs x (List.mem_append_left _ hx)))) (fun _ _ => rfl) rfl
      hb (ok_one (by kernel_rfl) rfl (okWide_bool_mk Try.underlying4 _))⟩

theorem fnExactStraight_holds : Rows.FnExactStraightSaid :=
  OpenClaim.holds_of_wide 5 Try.f5 rfl rfl rfl rfl rfl rfl rfl ⟨rfl, rfl, rfl, rfl, rfl⟩ rfl rfl rfl rfl rfl (by kernel_rfl) Try.func5 (by kernel_rfl)
    (of_decide_eq_true (by kernel_rfl)) (by unfold Func.isWrapper; first | (rw [if_pos (by decide +kernel)]; kernel_rfl) | (rw [if_neg (by decide +kernel)]; exact ⟨rfl, rfl⟩))
    (fun os started H enc _ => lifted os started H enc)
end Go.Proofs.Ytdlhmofplehpgaa
