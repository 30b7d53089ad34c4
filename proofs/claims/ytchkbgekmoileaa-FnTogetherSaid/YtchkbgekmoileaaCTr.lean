/- Two who help one descriptor of a drawn store by drawn turns, and finish, come to the status and the values that one alone comes to: the law returns true, whatever the bytes: no condition. -/
import Derived.Test.YtchkbgekmoileaaRows
import Derived.Test.YtchkbgekmoileaaCT
import Derived.Test.YtchkbgekmoileaaEc
import Derived.Test.YtchkbgekmoileaaChecked
import Derived.OpenShut
namespace Go.Proofs.Ytchkbgekmoileaa
open Go Go.ChangeShapes Go.WideShapes Go.ChangeAt Go.RowKit
set_option linter.unusedVariables false
set_option linter.unusedSimpArgs false

theorem own : ownKnob Try.prog.godebug = none := by kernel_rfl
theorem laidOut : laidOutB Try.prog = true := by kernel_rfl

theorem pty_bytes : ∀ {rows : List (List PT)}, (∀ r ∈ rows, PTy ty 7 5 r) → ∃ xs : List Int, rows = rowsY xs ∧ ByteP xs
  | [], _ => ⟨[], rfl, fun b hb => by simp at hb⟩
  | r :: rows, hr => by
    have h := hr r (List.mem_cons_self ..)
    simp only [PTy_it ty_5] at h
    obtain ⟨n, rfl, h0, h1⟩ := h
    obtain ⟨xs, rfl, hx⟩ := pty_bytes fun r h => hr r (List.mem_cons_of_mem _ h)
    refine ⟨n :: xs, rfl, fun b hb => ?_⟩
    rcases List.mem_cons.1 hb with rfl | hb
    · exact ⟨by simpa [IntKind.min, IntKind.signed, IntKind.bits] using h0, by simpa [IntKind.max, IntKind.signed, IntKind.bits] using h1⟩
    · exact hx b hb
theorem pty_byteS {cells : List PT} (h : PTy ty 8 22 cells) : ∃ xs : List Int, argVV ty 22 cells = .fr 5 (rowsY xs) ∧ ByteP xs ∧ xs.length ≤ 9223372036854775807 := by
  simp only [PTy_sl ty_22] at h
  obtain ⟨rows, rfl, hl, hr⟩ := h
  obtain ⟨xs, rfl, hx⟩ := pty_bytes hr
  rw [rowsY_len] at hl
  exact ⟨xs, rfl, hx, by simp only [maxLen] at hl; omega⟩

set_option maxRecDepth 100000 in
theorem lifted (os : Os) (started : os.Started) (H : Type) (enc : TypeId × Value → H) :
    ReturnsInHanded {} Try.checked os 3 .any (Rows.fnTogetherSpec.pre6 enc Try.prog Try.f3 Rows.fnTogetherRow.domain false) (Rows.fnTogetherSpec.post enc Try.prog Try.f3 false true false false) := by
  refine returnsInHanded_of_change (C := Try.checked) own started (by kernel_rfl) Try.func3
    (ChangeSpec.witness6 (enc := enc) (C := Try.checked) false ⟨#[], #[.slice none 0 0], []⟩ 8 (by kernel_rfl) (by kernel_rfl) (by kernel_rfl) (by kernel_rfl)) ?_
  intro W base args ds gs before hval0 hW hcnd _
  have hval : ∀ (j : Nat) t v, Try.f3.params[j]? = some t → args[j]? = some v → Value.okWide Try.prog W .any base t v := hval0
  have hW' := hW
  obtain ⟨p, q, hA0, hV, rfl, hfz, hnd⟩ := hW
  have hA : DataW.TrodAll enc Try.prog W 0 (fun _ => true) true Try.f3.params.toList args.toList ds p := hA0
  rw [Try.params3] at hA hval
  obtain ⟨v0, vs0, e0, ds0, p0, q0, hargs, rfl, rfl, h0, hA⟩ := trodAll_cons hA
  obtain ⟨rfl, rfl, rfl⟩ := trodAll_nil hA
  have hargs : args = #[v0] := by cases args; simp_all
  subst hargs
  obtain ⟨rfl, rfl⟩ := trodVars_none hV
  obtain ⟨cells0, hc0, hr0⟩ := arg_read hT (n := 8) (by decide +kernel) (hval 0 22 v0 rfl rfl) h0
  obtain ⟨D0, hd0, L0⟩ := pty_byteS hc0
  rw [hd0] at hr0
  refine ((togetherLaw_ok D0 L0.1 L0.2).run W [v0] rfl (fun j x u hx hu => ?_)).mono fun e W' he => ?_
  · match j with
    | 0 => simp only [List.getElem?_cons_zero, List.getElem?_cons_succ, Option.some.injEq] at hx hu; subst hx; subst hu; exact hr0
    | j + 1 => simp at hx
  · obtain ⟨val, g', rfl, hrel, _, hv⟩ := he
    obtain rfl : val = .bool true := hv
    have hb := below_of hrel.frm
    have hlt : ∀ x ∈ (p0 ++ []), x.block < W.heap.size := fun x hx => hW'.lt x (List.mem_append_left _ hx)
    exact ⟨_, rfl, post_below (pa := (p0 ++ [])) (pv := []) hW' (fun _ _ _ => trodAll_mk1 (shut_bool Try.underlying4 _))
      (fun sp hs => (trodAll_cons_mk (stays_one laidOut (by kernel_rfl) (of_decide_eq_true (by kernel_rfl)) h0 hb (fun x hx => hlt x (by simp [hx])) (fun x hx => hs x (by simp [hx]))) trodAll_mk0)) (fun _ _ => rfl) rfl
      hb (ok_one (by kernel_rfl) rfl (okWide_bool_mk Try.underlying4 _))⟩

theorem fnTogether_holds : Rows.FnTogetherSaid :=
  OpenClaim.holds_of_wide 3 Try.f3 rfl rfl rfl rfl rfl rfl rfl ⟨rfl, rfl, rfl, rfl, rfl⟩ rfl rfl rfl rfl rfl (by kernel_rfl) Try.func3 (by kernel_rfl)
    (of_decide_eq_true (by kernel_rfl)) (by unfold Func.isWrapper; first | (rw [if_pos (by decide +kernel)]; kernel_rfl) | (rw [if_neg (by decide +kernel)]; exact ⟨rfl, rfl⟩))
    (fun os started H enc _ => lifted os started H enc)
end Go.Proofs.Ytchkbgekmoileaa
