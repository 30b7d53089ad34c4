/- The program's Together returns what the reference's returns, whatever the arguments, in memory of its own, and leaves what it is handed: no condition. -/
import Derived.Test.YtmiojnibngncaaaRows
import Derived.Test.YtmiojnibngncaaaHJl
import Derived.Test.YtmiojnibngncaaaEc
import Derived.Test.YtmiojnibngncaaaChecked
import Derived.OpenShut
namespace Go.Proofs.Ytmiojnibngncaaa
open Go Go.ChangeShapes Go.WideShapes Go.ChangeAt Go.RowKit
set_option linter.unusedVariables false
set_option linter.unusedSimpArgs false

theorem own : ownKnob Try.prog.godebug = none := by kernel_rfl
theorem laidOut : laidOutB Try.prog = true := by kernel_rfl

theorem listOf {α : Type} {enc : α → List PT} {Q : List PT → Prop} (h : ∀ r, Q r → ∃ e, r = enc e) : ∀ {rows : List (List PT)}, (∀ r ∈ rows, Q r) → ∃ es : List α, rows = es.map enc
  | [], _ => ⟨[], rfl⟩
  | r :: rows, hr => by
    obtain ⟨e, rfl⟩ := h r (hr r (List.mem_cons_self ..))
    obtain ⟨es, rfl⟩ := listOf h fun r h => hr r (List.mem_cons_of_mem _ h)
    exact ⟨e :: es, rfl⟩
theorem pty_entL {n : Nat} {r : List PT} (h : PTy ty (n + 2) 98 r) : ∃ e : EntS, r = e.enc := by
  simp only [PTy_st ty_98, PTyF_cons, PTyF_nil, PTy_it ty_3, PTy_bo ty_4] at h
  obtain ⟨_, _, rfl, ⟨o, rfl, _⟩, _, _, rfl, ⟨v, rfl, _⟩, _, _, rfl, ⟨ol, rfl, _⟩, _, _, rfl, ⟨nw, rfl, _⟩, _, _, rfl, ⟨b, rfl⟩, rfl⟩ := h
  exact ⟨⟨o, v, ol, nw, b⟩, rfl⟩
theorem pty_headL {n : Nat} {r : List PT} (h : PTy ty (n + 2) 149 r) : ∃ e : HeadD, r = e.enc := by
  simp only [PTy_st ty_149, PTyF_cons, PTyF_nil, PTy_it ty_3] at h
  obtain ⟨_, _, rfl, ⟨o, rfl, _⟩, _, _, rfl, ⟨v, rfl, _⟩, _, _, rfl, ⟨ol, rfl, _⟩, rfl⟩ := h
  exact ⟨⟨o, v, ol⟩, rfl⟩
theorem pty_descR {r : List PT} (h : PTy ty 6 87 r) : ∃ d : DescS, r = rowT 98 d ∧ d.entries.length ≤ 9223372036854775807 := by
  simp only [PTy_st ty_87, PTyF_cons, PTyF_nil, PTy_it ty_3, PTy_sl ty_33] at h
  obtain ⟨_, _, rfl, ⟨o, rfl, _⟩, _, _, rfl, ⟨s, rfl, _⟩, _, _, rfl, ⟨rows, rfl, hl, hr⟩, rfl⟩ := h
  obtain ⟨es, rfl⟩ := listOf (fun r h => pty_entL (n := 2) h) hr
  simp only [List.length_map, maxLen] at hl
  exact ⟨⟨o, s, es⟩, rfl, by show es.length ≤ _; omega⟩
theorem descsOf : ∀ {rows : List (List PT)}, (∀ r ∈ rows, PTy ty 6 87 r) → ∃ ds : List DescS, rows = rowsD 98 ds ∧ ∀ d ∈ ds, d.entries.length ≤ 9223372036854775807
  | [], _ => ⟨[], rfl, fun d hd => by simp at hd⟩
  | r :: rows, hr => by
    obtain ⟨d, rfl, hd⟩ := pty_descR (hr r (List.mem_cons_self ..))
    obtain ⟨ds, rfl, hds⟩ := descsOf fun r h => hr r (List.mem_cons_of_mem _ h)
    refine ⟨d :: ds, rfl, fun x hx => ?_⟩
    rcases List.mem_cons.1 hx with rfl | hx
    · exact hd
    · exact hds x hx
theorem pty_store {cells : List PT} (h : PTy ty 8 58 cells) : ∃ s : StoreD, argVV ty 58 cells = .agg (s.cells 149 87 98) ∧ s.fits := by
  simp only [PTy_st ty_58, PTyF_cons, PTyF_nil, PTy_sl ty_56, PTy_sl ty_23] at h
  obtain ⟨_, _, rfl, ⟨rh, rfl, lh, hh⟩, _, _, rfl, ⟨rd, rfl, ld, hd⟩, rfl⟩ := h
  obtain ⟨hs, rfl⟩ := listOf (fun r h => pty_headL (n := 4) h) hh
  obtain ⟨ds, rfl, hds⟩ := descsOf hd
  rw [rowsD_len] at ld
  simp only [List.length_map, maxLen] at lh ld
  exact ⟨⟨hs, ds⟩, rfl, by show hs.length ≤ _; omega, by show ds.length ≤ _; omega, hds⟩
theorem pty_frameL {n : Nat} {r : List PT} (h : PTy ty (n + 2) 120 r) : ∃ e : FrameD, r = e.enc := by
  simp only [PTy_st ty_120, PTyF_cons, PTyF_nil, PTy_it ty_3] at h
  obtain ⟨_, _, rfl, ⟨o, rfl, _⟩, _, _, rfl, ⟨v, rfl, _⟩, _, _, rfl, ⟨ol, rfl, _⟩, rfl⟩ := h
  exact ⟨⟨o, v, ol⟩, rfl⟩
theorem pty_frameS {cells : List PT} (h : PTy ty 8 59 cells) : ∃ xs : List FrameD, argVV ty 59 cells = .fr 120 (rowsF xs) ∧ xs.length ≤ 9223372036854775807 := by
  simp only [PTy_sl ty_59] at h
  obtain ⟨rows, rfl, hl, hr⟩ := h
  obtain ⟨xs, rfl⟩ := listOf (fun r h => pty_frameL (n := 5) h) hr
  simp only [List.length_map, maxLen] at hl
  exact ⟨xs, rfl, by omega⟩
theorem pty_bools : ∀ {rows : List (List PT)}, (∀ r ∈ rows, PTy ty 7 4 r) → ∃ xs : List Bool, rows = rowsB xs
  | [], _ => ⟨[], rfl⟩
  | r :: rows, hr => by
    have h := hr r (List.mem_cons_self ..)
    simp only [PTy_bo ty_4] at h
    obtain ⟨n, rfl⟩ := h
    obtain ⟨xs, rfl⟩ := pty_bools fun r h => hr r (List.mem_cons_of_mem _ h)
    exact ⟨n :: xs, rfl⟩
theorem pty_boolS {cells : List PT} (h : PTy ty 8 78 cells) : ∃ xs : List Bool, argVV ty 78 cells = .fr 4 (rowsB xs) ∧ xs.length ≤ 9223372036854775807 := by
  simp only [PTy_sl ty_78] at h
  obtain ⟨rows, rfl, hl, hr⟩ := h
  obtain ⟨xs, rfl⟩ := pty_bools hr
  rw [rowsB_len] at hl
  exact ⟨xs, rfl, by simp only [maxLen] at hl; omega⟩

set_option maxRecDepth 100000 in
theorem lifted (os : Os) (started : os.Started) (H : Type) (enc : TypeId × Value → H) :
    ReturnsInHanded {} Try.checked os 8 .any (Rows.fnExactTogetherSpec.pre6 enc Try.prog Try.f8 Rows.fnExactTogetherRow.domain false) (Rows.fnExactTogetherSpec.post enc Try.prog Try.f8 false true false false) := by
  refine returnsInHanded_of_change (C := Try.checked) own started (by kernel_rfl) Try.func8
    (ChangeSpec.witness6 (enc := enc) (C := Try.checked) false ⟨#[], #[.agg #[.slice none 0 0, .slice none 0 0], .slice none 0 0, .slice none 0 0, .slice none 0 0], []⟩ 8 (by kernel_rfl) (by kernel_rfl) (by kernel_rfl) (by kernel_rfl)) ?_
  intro W base args ds gs before hval0 hW hcnd _
  have hval : ∀ (j : Nat) t v, Try.f8.params[j]? = some t → args[j]? = some v → Value.okWide Try.prog W .any base t v := hval0
  have hW' := hW
  obtain ⟨p, q, hA0, hV, rfl, hfz, hnd⟩ := hW
  have hA : DataW.TrodAll enc Try.prog W 0 (fun _ => true) true Try.f8.params.toList args.toList ds p := hA0
  rw [Try.params8] at hA hval
  obtain ⟨v0, vs0, e0, ds0, p0, q0, hargs, rfl, rfl, h0, hA⟩ := trodAll_cons hA
  obtain ⟨v1, vs1, e1, ds1, p1, q1, rfl, rfl, rfl, h1, hA⟩ := trodAll_cons hA
  obtain ⟨v2, vs2, e2, ds2, p2, q2, rfl, rfl, rfl, h2, hA⟩ := trodAll_cons hA
  obtain ⟨v3, vs3, e3, ds3, p3, q3, rfl, rfl, rfl, h3, hA⟩ := trodAll_cons hA
  obtain ⟨rfl, rfl, rfl⟩ := trodAll_nil hA
  have hargs : args = #[v0, v1, v2, v3] := by cases args; simp_all
  subst hargs
  obtain ⟨rfl, rfl⟩ := trodVars_none hV
  obtain ⟨cells0, hc0, hr0⟩ := arg_read hT (n := 8) (by decide +kernel) (hval 0 58 v0 rfl rfl) h0
  obtain ⟨D0, hd0, L0⟩ := pty_store hc0
  rw [hd0] at hr0
  obtain ⟨cells1, hc1, hr1⟩ := arg_read hT (n := 8) (by decide +kernel) (hval 1 59 v1 rfl rfl) h1
  obtain ⟨D1, hd1, L1⟩ := pty_frameS hc1
  rw [hd1] at hr1
  obtain ⟨cells2, hc2, hr2⟩ := arg_read hT (n := 8) (by decide +kernel) (hval 2 59 v2 rfl rfl) h2
  obtain ⟨D2, hd2, L2⟩ := pty_frameS hc2
  rw [hd2] at hr2
  obtain ⟨cells3, hc3, hr3⟩ := arg_read hT (n := 8) (by decide +kernel) (hval 3 78 v3 rfl rfl) h3
  obtain ⟨D3, hd3, L3⟩ := pty_boolS hc3
  rw [hd3] at hr3
  refine ((togLaw_ok D0 D1 D2 D3 L0 L1 L2 L3).run W [v0, v1, v2, v3] rfl (fun j x u hx hu => ?_)).mono fun e W' he => ?_
  · match j with
    | 0 => simp only [List.getElem?_cons_zero, List.getElem?_cons_succ, Option.some.injEq] at hx hu; subst hx; subst hu; exact hr0
    | 1 => simp only [List.getElem?_cons_zero, List.getElem?_cons_succ, Option.some.injEq] at hx hu; subst hx; subst hu; exact hr1
    | 2 => simp only [List.getElem?_cons_zero, List.getElem?_cons_succ, Option.some.injEq] at hx hu; subst hx; subst hu; exact hr2
    | 3 => simp only [List.getElem?_cons_zero, List.getElem?_cons_succ, Option.some.injEq] at hx hu; subst hx; subst hu; exact hr3
    | j + 4 => simp at hx
  · obtain ⟨val, g', rfl, hrel, _, hv⟩ := he
    obtain rfl : val = .bool true := hv
    have hb := below_of hrel.frm
    have hlt : ∀ x ∈ (p0 ++ (p1 ++ (p2 ++ (p3 ++ [])))), x.block < W.heap.size := fun x hx => hW'.lt x (List.mem_append_left _ hx)
    exact ⟨_, rfl, post_below (pa := (p0 ++ (p1 ++ (p2 ++ (p3 ++ []))))) (pv := []) hW' (fun _ _ _ => trodAll_mk1 (shut_bool Try.underlying4 _))
      (fun sp hs => (trodAll_cons_mk (stays_one laidOut (by kernel_rfl) (of_decide_eq_true (by kernel_rfl)) h0 hb (fun x hx => hlt x (by simp [hx])) (fun x hx => hs x (by simp [hx]))) (trodAll_cons_mk (stays_one laidOut (by kernel_rfl) (of_decide_eq_true (by kernel_rfl)) h1 hb (fun x hx => hlt x (by simp [hx])) (fun x hx => hs x (by simp [hx]))) (trodAll_cons_mk (stays_one laidOut (by kernel_rfl) (of_decide_eq_true (by kernel_rfl)) h2 hb (fun x hx => hlt x (by simp [hx])) (fun x hx => hs x (by simp [hx]))) (trodAll_cons_mk (stays_one laidOut (by kernel_rfl) (of_decide_eq_true (by kernel_rfl)) h3 hb (fun x hx => hlt x (by simp [hx])) (fun x hx => hs x (by simp [hx]))) trodAll_mk0))))) (fun _ _ => rfl) rfl
      hb (ok_one (by kernel_rfl) rfl (okWide_bool_mk Try.underlying4 _))⟩

theorem fnExactTogether_holds : Rows.FnExactTogetherSaid :=
  OpenClaim.holds_of_wide 8 Try.f8 rfl rfl rfl rfl rfl rfl rfl ⟨rfl, rfl, rfl, rfl, rfl⟩ rfl rfl rfl rfl rfl (by kernel_rfl) Try.func8 (by kernel_rfl)
    (of_decide_eq_true (by kernel_rfl)) (by unfold Func.isWrapper; first | (rw [if_pos (by decide +kernel)]; kernel_rfl) | (rw [if_neg (by decide +kernel)]; exact ⟨rfl, rfl⟩))
    (fun os started H enc _ => lifted os started H enc)
end Go.Proofs.Ytmiojnibngncaaa
