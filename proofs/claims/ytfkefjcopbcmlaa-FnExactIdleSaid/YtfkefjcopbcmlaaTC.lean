/- The program's Idle returns what the reference's returns, whatever the argument, and leaves what it is handed: no condition. -/
import Derived.Test.YtfkefjcopbcmlaaRows
import Derived.Test.YtfkefjcopbcmlaaTB
import Derived.Test.YtfkefjcopbcmlaaEngW
import Derived.Test.YtfkefjcopbcmlaaChecked
import Derived.OpenShut
namespace Go.Proofs.Ytfkefjcopbcmlaa
open Go Go.ChangeShapes Go.WideShapes Go.ChangeAt Go.RowKit
set_option linter.unusedVariables false
set_option linter.unusedSimpArgs false

theorem own : ownKnob Try.prog.godebug = none := by kernel_rfl
theorem laidOut : laidOutB Try.prog = true := by kernel_rfl

theorem pty_entL {n : Nat} {r : List PT} (h : PTy ty (n + 2) 186 r) : ∃ e : EntS, r = e.enc := by
  simp only [PTy_st ty_186, PTyF_cons, PTyF_nil, PTy_it ty_3, PTy_bo ty_4] at h
  obtain ⟨_, _, rfl, ⟨o, rfl, _⟩, _, _, rfl, ⟨v, rfl, _⟩, _, _, rfl, ⟨ol, rfl, _⟩, _, _, rfl, ⟨nw, rfl, _⟩, _, _, rfl, ⟨b, rfl⟩, rfl⟩ := h
  exact ⟨⟨o, v, ol, nw, b⟩, rfl⟩
theorem pty_insL {n : Nat} {r : List PT} (h : PTy ty (n + 2) 168 r) : ∃ e : InsS, r = e.enc := by
  simp only [PTy_st ty_168, PTyF_cons, PTyF_nil, PTy_it ty_3] at h
  obtain ⟨_, _, rfl, ⟨o, rfl, _⟩, _, _, rfl, ⟨v, rfl, _⟩, _, _, rfl, ⟨ol, rfl, _⟩, rfl⟩ := h
  exact ⟨⟨o, v, ol⟩, rfl⟩
theorem pty_frL {n : Nat} {r : List PT} (h : PTy ty (n + 2) 86 r) : ∃ e : FrameD, r = e.enc := by
  simp only [PTy_st ty_86, PTyF_cons, PTyF_nil, PTy_it ty_3] at h
  obtain ⟨_, _, rfl, ⟨o, rfl, _⟩, _, _, rfl, ⟨v, rfl, _⟩, _, _, rfl, ⟨ol, rfl, _⟩, rfl⟩ := h
  exact ⟨⟨o, v, ol⟩, rfl⟩
theorem listOf {α : Type} {enc : α → List PT} {Q : List PT → Prop} (h : ∀ r, Q r → ∃ e, r = enc e) : ∀ {rows : List (List PT)}, (∀ r ∈ rows, Q r) → ∃ es : List α, rows = es.map enc
  | [], _ => ⟨[], rfl⟩
  | r :: rows, hr => by
    obtain ⟨e, rfl⟩ := h r (hr r (List.mem_cons_self ..))
    obtain ⟨es, rfl⟩ := listOf h fun r h => hr r (List.mem_cons_of_mem _ h)
    exact ⟨e :: es, rfl⟩
theorem pty_thread {cells : List PT} (h : PTy ty 8 57 cells) : ∃ t : ThreadD, argVV ty 57 cells = .agg (t.cells 168 186 86) ∧ t.prog.length ≤ 9223372036854775807 ∧ t.opens.length ≤ 9223372036854775807 ∧ t.stack.length ≤ 9223372036854775807 := by
  simp only [PTy_st ty_57, PTyF_cons, PTyF_nil, PTy_it ty_3, PTy_sl ty_52, PTy_sl ty_54, PTy_sl ty_55, PTy_ar ty_53, arF, List.range_succ, List.range_zero, List.map_cons, List.map_nil, List.map_append, List.nil_append, List.cons_append] at h
  obtain ⟨_, _, rfl, ⟨i, rfl, _⟩, _, _, rfl, ⟨rp, rfl, lp, hp⟩, _, _, rfl, ⟨pc, rfl, _⟩, _, _, rfl, ⟨_, _, rfl, ⟨r0, rfl, _⟩, _, _, rfl, ⟨r1, rfl, _⟩, _, _, rfl, ⟨r2, rfl, _⟩, _, _, rfl, ⟨r3, rfl, _⟩, rfl⟩, _, _, rfl, ⟨ro, rfl, lo, ho⟩, _, _, rfl, ⟨ck, rfl, _⟩, _, _, rfl, ⟨rs, rfl, ls, hs⟩,
    _, _, rfl, ⟨mi, rfl, _⟩, _, _, rfl, ⟨st, rfl, _⟩, _, _, rfl, ⟨co, rfl, _⟩, _, _, rfl, ⟨fa, rfl, _⟩, rfl⟩ := h
  obtain ⟨ps, rfl⟩ := listOf (fun r h => pty_insL (n := 4) h) hp
  obtain ⟨os, rfl⟩ := listOf (fun r h => pty_entL (n := 4) h) ho
  obtain ⟨ss, rfl⟩ := listOf (fun r h => pty_frL (n := 4) h) hs
  simp only [List.length_map, maxLen] at lp lo ls
  exact ⟨⟨i, ps, pc, r0, r1, r2, r3, os, ck, ss, mi, st, co, fa⟩, rfl, by show ps.length ≤ _; omega, by show os.length ≤ _; omega, by show ss.length ≤ _; omega⟩

set_option maxRecDepth 100000 in
theorem lifted (os : Os) (started : os.Started) (H : Type) (enc : TypeId × Value → H) :
    ReturnsInHanded {} Try.checked os 4 .any (Rows.fnExactIdleSpec.pre6 enc Try.prog Try.f4 Rows.fnExactIdleRow.domain false) (Rows.fnExactIdleSpec.post enc Try.prog Try.f4 false true false false) := by
  refine returnsInHanded_of_change (C := Try.checked) own started (by kernel_rfl) Try.func4
    (ChangeSpec.witness6 (enc := enc) (C := Try.checked) false ⟨#[], #[.agg #[.int .i64 0, .slice none 0 0, .int .i64 0, .int .i64 0, .int .i64 0, .int .i64 0, .int .i64 0, .slice none 0 0, .int .i64 0, .slice none 0 0, .int .i64 0, .int .i64 0, .int .i64 0, .int .i64 0]], []⟩ 8 (by kernel_rfl) (by kernel_rfl) (by kernel_rfl) (by kernel_rfl)) ?_
  intro W base args ds gs before hval0 hW hcnd _
  have hval : ∀ (j : Nat) t v, Try.f4.params[j]? = some t → args[j]? = some v → Value.okWide Try.prog W .any base t v := hval0
  have hW' := hW
  obtain ⟨p, q, hA0, hV, rfl, hfz, hnd⟩ := hW
  have hA : DataW.TrodAll enc Try.prog W 0 (fun _ => true) true Try.f4.params.toList args.toList ds p := hA0
  rw [Try.params4] at hA hval
  obtain ⟨v0, vs0, e0, ds0, p0, q0, hargs, rfl, rfl, h0, hA⟩ := trodAll_cons hA
  obtain ⟨rfl, rfl, rfl⟩ := trodAll_nil hA
  have hargs : args = #[v0] := by cases args; simp_all
  subst hargs
  obtain ⟨rfl, rfl⟩ := trodVars_none hV
  obtain ⟨cells0, hc0, hr0⟩ := arg_read hT (n := 8) (by decide +kernel) (hval 0 57 v0 rfl rfl) h0
  obtain ⟨D0, hd0, L0⟩ := pty_thread hc0
  rw [hd0] at hr0
  refine ((idleLaw_ok D0 L0.1 L0.2.1 L0.2.2).run W [v0] rfl (fun j x u hx hu => ?_)).mono fun e W' he => ?_
  · match j with
    | 0 => simp only [List.getElem?_cons_zero, List.getElem?_cons_succ, Option.some.injEq] at hx hu; subst hx; subst hu; exact hr0
    | j + 1 => simp at hx
  · obtain ⟨val, g', rfl, hrel, _, hv⟩ := he
    obtain rfl : val = .bool true := hv
    have hb := below_of hrel.frm
    have hlt : ∀ x ∈ (p0 ++ []), x.block < W.heap.size := fun x hx => hW'.lt x (List.mem_append_left _ hx)
    exact ⟨_, rfl, post_below (pa := (p0 ++ [])) (pv := []) hW' (fun _ _ _ => trodAll_mk1 (shut_bool Try.underlying4 _))
      (fun sp hs => (trodAll_cons_mk (stays_one laidOut (by kernel_rfl) (of_decide_eq_true (by kernel_rfl)) h0 hb (fun x hx => hlt x (by simp [hx])) (fun x hx => hs x (by simp [hx]))) trodAll_mk0)) (fun _ _ => rfl) rfl
      hb (ok_one (by kernel_rfl) rfl (okWide_bool_mk Try.underlying4 _))⟩

theorem fnExactIdle_holds : Rows.FnExactIdleSaid :=
  OpenClaim.holds_of_wide 4 Try.f4 rfl rfl rfl rfl rfl rfl rfl ⟨rfl, rfl, rfl, rfl, rfl⟩ rfl rfl rfl rfl rfl (by kernel_rfl) Try.func4 (by kernel_rfl)
    (of_decide_eq_true (by kernel_rfl)) (by unfold Func.isWrapper; first | (rw [if_pos (by decide +kernel)]; kernel_rfl) | (rw [if_neg (by decide +kernel)]; exact ⟨rfl, rfl⟩))
    (fun os started H enc _ => lifted os started H enc)
end Go.Proofs.Ytfkefjcopbcmlaa
