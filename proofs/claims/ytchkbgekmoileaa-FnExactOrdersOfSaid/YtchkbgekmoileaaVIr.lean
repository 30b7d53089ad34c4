/- The program's OrdersOf returns what the reference's returns, whatever the arguments, and leaves what it is handed: no condition. -/
import Derived.Test.YtchkbgekmoileaaRows
import Derived.Test.YtchkbgekmoileaaVI
import Derived.Test.YtchkbgekmoileaaEc
import Derived.Test.YtchkbgekmoileaaChecked
import Derived.OpenShut
namespace Go.Proofs.Ytchkbgekmoileaa
open Go Go.ChangeShapes Go.WideShapes Go.ChangeAt Go.RowKit
set_option linter.unusedVariables false
set_option linter.unusedSimpArgs false

theorem own : ownKnob Try.prog.godebug = none := by kernel_rfl
theorem laidOut : laidOutB Try.prog = true := by kernel_rfl

theorem listOf {α : Type} {enc : α → List PT} {Q : List PT → Prop} (h : ∀ r, Q r → ∃ e, r = enc e) : ∀ {rows : List (List PT)}, (∀ r ∈ rows, Q r) → ∃ es : List α, rows = es.map enc
  | [], _ => ⟨[], rfl⟩
  | r :: rows, hr => by
    obtain ⟨e, rfl⟩ := h r (hr r (List.mem_cons_self ..))
    obtain ⟨es, rfl⟩ := listOf h fun r h => hr r (List.mem_cons_of_mem _ h)
    exact ⟨e :: es, rfl⟩
theorem pty_entL {n : Nat} {r : List PT} (h : PTy ty (n + 2) 136 r) : ∃ e : EntS, r = e.enc := by
  simp only [PTy_st ty_136, PTyF_cons, PTyF_nil, PTy_it ty_3, PTy_bo ty_4] at h
  obtain ⟨_, _, rfl, ⟨o, rfl, _⟩, _, _, rfl, ⟨v, rfl, _⟩, _, _, rfl, ⟨ol, rfl, _⟩, _, _, rfl, ⟨nw, rfl, _⟩, _, _, rfl, ⟨b, rfl⟩, rfl⟩ := h
  exact ⟨⟨o, v, ol, nw, b⟩, rfl⟩
theorem pty_descR {r : List PT} (h : PTy ty 7 86 r) : ∃ d : DescS, r = rowT 136 d ∧ d.entries.length ≤ 9223372036854775807 := by
  simp only [PTy_st ty_86, PTyF_cons, PTyF_nil, PTy_it ty_3, PTy_sl ty_84] at h
  obtain ⟨_, _, rfl, ⟨o, rfl, _⟩, _, _, rfl, ⟨s, rfl, _⟩, _, _, rfl, ⟨rows, rfl, hl, hr⟩, rfl⟩ := h
  obtain ⟨es, rfl⟩ := listOf (fun r h => pty_entL (n := 3) h) hr
  simp only [List.length_map, maxLen] at hl
  exact ⟨⟨o, s, es⟩, rfl, by show es.length ≤ _; omega⟩
theorem descsOf : ∀ {rows : List (List PT)}, (∀ r ∈ rows, PTy ty 7 86 r) → ∃ ds : List DescS, rows = rowsD 136 ds ∧ ∀ d ∈ ds, d.entries.length ≤ 9223372036854775807
  | [], _ => ⟨[], rfl, fun d hd => by simp at hd⟩
  | r :: rows, hr => by
    obtain ⟨d, rfl, hd⟩ := pty_descR (hr r (List.mem_cons_self ..))
    obtain ⟨ds, rfl, hds⟩ := descsOf fun r h => hr r (List.mem_cons_of_mem _ h)
    refine ⟨d :: ds, rfl, fun x hx => ?_⟩
    rcases List.mem_cons.1 hx with rfl | hx
    · exact hd
    · exact hds x hx
theorem pty_ints : ∀ {rows : List (List PT)}, (∀ r ∈ rows, PTy ty 7 3 r) → ∃ xs : List Int, rows = rowsN xs
  | [], _ => ⟨[], rfl⟩
  | r :: rows, hr => by
    have h := hr r (List.mem_cons_self ..)
    simp only [PTy_it ty_3] at h
    obtain ⟨n, rfl, _⟩ := h
    obtain ⟨xs, rfl⟩ := pty_ints fun r h => hr r (List.mem_cons_of_mem _ h)
    exact ⟨n :: xs, rfl⟩
theorem pty_intS {cells : List PT} (h : PTy ty 8 52 cells) : ∃ xs : List Int, argVV ty 52 cells = .fr 3 (rowsN xs) ∧ xs.length ≤ 9223372036854775807 := by
  simp only [PTy_sl ty_52] at h
  obtain ⟨rows, rfl, hl, hr⟩ := h
  obtain ⟨xs, rfl⟩ := pty_ints hr
  rw [rowsN_len] at hl
  exact ⟨xs, rfl, by simp only [maxLen] at hl; omega⟩
theorem pty_descS {cells : List PT} (h : PTy ty 8 53 cells) : ∃ ds : List DescS, argVV ty 53 cells = .fr 86 (rowsD 136 ds) ∧ ds.length ≤ 9223372036854775807 ∧ ∀ d ∈ ds, d.entries.length ≤ 9223372036854775807 := by
  simp only [PTy_sl ty_53] at h
  obtain ⟨rd, rfl, ld, hd⟩ := h
  obtain ⟨ds, rfl, hds⟩ := descsOf hd
  rw [rowsD_len] at ld
  simp only [maxLen] at ld
  exact ⟨ds, rfl, by omega, hds⟩

set_option maxRecDepth 100000 in
theorem lifted (os : Os) (started : os.Started) (H : Type) (enc : TypeId × Value → H) :
    ReturnsInHanded {} Try.checked os 4 .any (Rows.fnExactOrdersOfSpec.pre6 enc Try.prog Try.f4 Rows.fnExactOrdersOfRow.domain false) (Rows.fnExactOrdersOfSpec.post enc Try.prog Try.f4 false true false false) := by
  refine returnsInHanded_of_change (C := Try.checked) own started (by kernel_rfl) Try.func4
    (ChangeSpec.witness6 (enc := enc) (C := Try.checked) false ⟨#[], #[.slice none 0 0, .slice none 0 0], []⟩ 8 (by kernel_rfl) (by kernel_rfl) (by kernel_rfl) (by kernel_rfl)) ?_
  intro W base args ds gs before hval0 hW hcnd _
  have hval : ∀ (j : Nat) t v, Try.f4.params[j]? = some t → args[j]? = some v → Value.okWide Try.prog W .any base t v := hval0
  have hW' := hW
  obtain ⟨p, q, hA0, hV, rfl, hfz, hnd⟩ := hW
  have hA : DataW.TrodAll enc Try.prog W 0 (fun _ => true) true Try.f4.params.toList args.toList ds p := hA0
  rw [Try.params4] at hA hval
  obtain ⟨v0, vs0, e0, ds0, p0, q0, hargs, rfl, rfl, h0, hA⟩ := trodAll_cons hA
  obtain ⟨v1, vs1, e1, ds1, p1, q1, rfl, rfl, rfl, h1, hA⟩ := trodAll_cons hA
  obtain ⟨rfl, rfl, rfl⟩ := trodAll_nil hA
  have hargs : args = #[v0, v1] := by cases args; simp_all
  subst hargs
  obtain ⟨rfl, rfl⟩ := trodVars_none hV
  obtain ⟨cells0, hc0, hr0⟩ := arg_read hT (n := 8) (by decide +kernel) (hval 0 52 v0 rfl rfl) h0
  obtain ⟨D0, hd0, L0⟩ := pty_intS hc0
  rw [hd0] at hr0
  obtain ⟨cells1, hc1, hr1⟩ := arg_read hT (n := 8) (by decide +kernel) (hval 1 53 v1 rfl rfl) h1
  obtain ⟨D1, hd1, L1⟩ := pty_descS hc1
  rw [hd1] at hr1
  refine ((ordersLaw_ok D0 D1 L0 L1.1 L1.2).run W [v0, v1] rfl (fun j x u hx hu => ?_)).mono fun e W' he => ?_
  · match j with
    | 0 => simp only [List.getElem?_cons_zero, List.getElem?_cons_succ, Option.some.injEq] at hx hu; subst hx; subst hu; exact hr0
    | 1 => simp only [List.getElem?_cons_zero, List.getElem?_cons_succ, Option.some.injEq] at hx hu; subst hx; subst hu; exact hr1
    | j + 2 => simp at hx
  · obtain ⟨val, g', rfl, hrel, _, hv⟩ := he
    obtain rfl : val = .bool true := hv
    have hb := below_of hrel.frm
    have hlt : ∀ x ∈ (p0 ++ (p1 ++ [])), x.block < W.heap.size := fun x hx => hW'.lt x (List.mem_append_left _ hx)
    exact ⟨_, rfl, post_below (pa := (p0 ++ (p1 ++ []))) (pv := []) hW' (fun _ _ _ => trodAll_mk1 (shut_bool Try.underlying4 _))
      (fun sp hs => (trodAll_cons_mk (stays_one laidOut (by kernel_rfl) (of_decide_eq_true (by kernel_rfl)) h0 hb (fun x hx => hlt x (by simp [hx])) (fun x hx => hs x (by simp [hx]))) (trodAll_cons_mk (stays_one laidOut (by kernel_rfl) (of_decide_eq_true (by kernel_rfl)) h1 hb (fun x hx => hlt x (by simp [hx])) (fun x hx => hs x (by simp [hx]))) trodAll_mk0))) (fun _ _ => rfl) rfl
      hb (ok_one (by kernel_rfl) rfl (okWide_bool_mk Try.underlying4 _))⟩

theorem fnExactOrdersOf_holds : Rows.FnExactOrdersOfSaid :=
  OpenClaim.holds_of_wide 4 Try.f4 rfl rfl rfl rfl rfl rfl rfl ⟨rfl, rfl, rfl, rfl, rfl⟩ rfl rfl rfl rfl rfl (by kernel_rfl) Try.func4 (by kernel_rfl)
    (of_decide_eq_true (by kernel_rfl)) (by unfold Func.isWrapper; first | (rw [if_pos (by decide +kernel)]; kernel_rfl) | (rw [if_neg (by decide +kernel)]; exact ⟨rfl, rfl⟩))
    (fun os started H enc _ => lifted os started H enc)
end Go.Proofs.Ytchkbgekmoileaa
