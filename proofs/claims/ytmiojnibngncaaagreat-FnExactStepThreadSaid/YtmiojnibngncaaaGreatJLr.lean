/- The program's StepThread returns what the reference's returns, whatever the arguments, and leaves what it is handed: no condition. -/
import Derived.Test.YtmiojnibngncaaaGreatRows
import Derived.Test.YtmiojnibngncaaaGreatZQx
import Derived.Test.YtmiojnibngncaaaGreatZQc
import Derived.Test.YtmiojnibngncaaaGreatChecked
import Derived.OpenShut
namespace Go.Proofs.YtmiojnibngncaaaGreat
open Go Go.ChangeShapes Go.WideShapes Go.ChangeAt Go.RowKit
set_option linter.unusedVariables false
set_option linter.unusedSimpArgs false
theorem own : ownKnob Tryz.prog.godebug = none := by kernel_rfl
theorem laidOut : laidOutB Tryz.prog = true := by kernel_rfl
theorem Qod {α : Type} {enc : α → List PT} {Q : List PT → Prop} (h : ∀ r, Q r → ∃ e, r = enc e) : ∀ {rows : List (List PT)}, (∀ r ∈ rows, Q r) → ∃ es : List α, rows = es.map enc
  | [], _ => ⟨[], rfl⟩
  | r :: rows, hr => by
    obtain ⟨e, rfl⟩ := h r (hr r (List.mem_cons_self ..))
    obtain ⟨es, rfl⟩ := Qod h fun r h => hr r (List.mem_cons_of_mem _ h)
    exact ⟨e :: es, rfl⟩
theorem Qvw {n : Nat} {r : List PT} (h : PTy ty (n + 2) 158 r) : ∃ e : EntS, r = e.enc := by
  simp only [Qmy Xhh, Qfr, Qgv, Qpa Xgu, Xhy ty_4] at h
  obtain ⟨_, _, rfl, ⟨o, rfl, _⟩, _, _, rfl, ⟨v, rfl, _⟩, _, _, rfl, ⟨ol, rfl, _⟩, _, _, rfl, ⟨nw, rfl, _⟩, _, _, rfl, ⟨b, rfl⟩, rfl⟩ := h
  exact ⟨⟨o, v, ol, nw, b⟩, rfl⟩
theorem Xa2 {n : Nat} {r : List PT} (h : PTy ty (n + 2) 153 r) : ∃ e : HeadD, r = e.enc := by
  simp only [Qmy Xgv, Qfr, Qgv, Qpa Xgu] at h
  obtain ⟨_, _, rfl, ⟨o, rfl, _⟩, _, _, rfl, ⟨v, rfl, _⟩, _, _, rfl, ⟨ol, rfl, _⟩, rfl⟩ := h
  exact ⟨⟨o, v, ol⟩, rfl⟩
theorem Xbf {r : List PT} (h : PTy ty 6 139 r) : ∃ d : DescS, r = Quq 158 d ∧ d.entries.length ≤ 9223372036854775807 := by
  simp only [Qmy Xgx, Qfr, Qgv, Qpa Xgu, Qor Xhs] at h
  obtain ⟨_, _, rfl, ⟨o, rfl, _⟩, _, _, rfl, ⟨s, rfl, _⟩, _, _, rfl, ⟨rows, rfl, hl, hr⟩, rfl⟩ := h
  obtain ⟨es, rfl⟩ := Qod (fun r h => Qvw (n := 2) h) hr
  simp only [List.length_map, maxLen] at hl
  exact ⟨⟨o, s, es⟩, rfl, by show es.length ≤ _; omega⟩
theorem Xck : ∀ {rows : List (List PT)}, (∀ r ∈ rows, PTy ty 6 139 r) → ∃ ds : List DescS, rows = Qar 158 ds ∧ ∀ d ∈ ds, d.entries.length ≤ 9223372036854775807
  | [], _ => ⟨[], rfl, fun d hd => by simp at hd⟩
  | r :: rows, hr => by
    obtain ⟨d, rfl, hd⟩ := Xbf (hr r (List.mem_cons_self ..))
    obtain ⟨ds, rfl, hds⟩ := Xck fun r h => hr r (List.mem_cons_of_mem _ h)
    refine ⟨d :: ds, rfl, fun x hx => ?_⟩
    rcases List.mem_cons.1 hx with rfl | hx
    · exact hd
    · exact hds x hx
theorem Xbc {cells : List PT} (h : PTy ty 8 26 cells) : ∃ s : StoreD, Ql4 ty 26 cells = .agg (s.cells 153 139 158) ∧ s.fits := by
  simp only [Qmy ty_26, Qfr, Qgv, Qor ty_23, Qor ty_24] at h
  obtain ⟨_, _, rfl, ⟨rh, rfl, lh, hh⟩, _, _, rfl, ⟨rd, rfl, ld, hd⟩, rfl⟩ := h
  obtain ⟨hs, rfl⟩ := Qod (fun r h => Xa2 (n := 4) h) hh
  obtain ⟨ds, rfl, hds⟩ := Xck hd
  rw [Qab] at ld
  simp only [List.length_map, maxLen] at lh ld
  exact ⟨⟨hs, ds⟩, rfl, by show hs.length ≤ _; omega, by show ds.length ≤ _; omega, hds⟩
theorem Xdk {n : Nat} {r : List PT} (h : PTy ty (n + 2) 156 r) : ∃ e : InsS, r = e.enc := by
  simp only [Qmy Xg1, Qfr, Qgv, Qpa Xgu] at h
  obtain ⟨_, _, rfl, ⟨o, rfl, _⟩, _, _, rfl, ⟨v, rfl, _⟩, _, _, rfl, ⟨ol, rfl, _⟩, rfl⟩ := h
  exact ⟨⟨o, v, ol⟩, rfl⟩
theorem Xfh {n : Nat} {r : List PT} (h : PTy ty (n + 2) 162 r) : ∃ e : FrameD, r = e.enc := by
  simp only [Qmy Xhf, Qfr, Qgv, Qpa Xgu] at h
  obtain ⟨_, _, rfl, ⟨o, rfl, _⟩, _, _, rfl, ⟨v, rfl, _⟩, _, _, rfl, ⟨ol, rfl, _⟩, rfl⟩ := h
  exact ⟨⟨o, v, ol⟩, rfl⟩
theorem Qxi {cells : List PT} (h : PTy ty 8 50 cells) : ∃ t : ThreadD, Ql4 ty 50 cells = .agg (t.cells 156 158 162) ∧ t.prog.length ≤ 9223372036854775807 ∧ t.opens.length ≤ 9223372036854775807 ∧ t.stack.length ≤ 9223372036854775807 := by
  simp only [Qmy ty_50, Qfr, Qgv, Qpa Xgu, Qor ty_45, Qor Xhs, Qor ty_48, Xhd ty_46, arF, List.range_succ, List.range_zero, List.map_cons, List.map_nil, List.map_append, List.nil_append, List.cons_append] at h
  obtain ⟨_, _, rfl, ⟨i, rfl, _⟩, _, _, rfl, ⟨rp, rfl, lp, hp⟩, _, _, rfl, ⟨pc, rfl, _⟩, _, _, rfl, ⟨_, _, rfl, ⟨r0, rfl, _⟩, _, _, rfl, ⟨r1, rfl, _⟩, _, _, rfl, ⟨r2, rfl, _⟩, _, _, rfl, ⟨r3, rfl, _⟩, rfl⟩, _, _, rfl, ⟨ro, rfl, lo, ho⟩, _, _, rfl, ⟨ck, rfl, _⟩, _, _, rfl, ⟨rs, rfl, ls, hs⟩,
    _, _, rfl, ⟨mi, rfl, _⟩, _, _, rfl, ⟨st, rfl, _⟩, _, _, rfl, ⟨co, rfl, _⟩, _, _, rfl, ⟨fa, rfl, _⟩, rfl⟩ := h
  obtain ⟨ps, rfl⟩ := Qod (fun r h => Xdk (n := 4) h) hp
  obtain ⟨os, rfl⟩ := Qod (fun r h => Qvw (n := 4) h) ho
  obtain ⟨ss, rfl⟩ := Qod (fun r h => Xfh (n := 4) h) hs
  simp only [List.length_map, maxLen] at lp lo ls
  exact ⟨⟨i, ps, pc, r0, r1, r2, r3, os, ck, ss, mi, st, co, fa⟩, rfl, by show ps.length ≤ _; omega, by show os.length ≤ _; omega, by show ss.length ≤ _; omega⟩
set_option maxRecDepth 100000 in
theorem lifted (os : Os) (started : os.Started) (H : Type) (enc : TypeId × Value → H) :
    ReturnsInHanded {} Tryz.checked os 4 .any (Rows.fnExactStepThreadSpec.pre6 enc Tryz.prog Tryz.f4 Rows.fnExactStepThreadRow.domain false) (Rows.fnExactStepThreadSpec.post enc Tryz.prog Tryz.f4 false true false false) := by
  refine returnsInHanded_of_change (C := Tryz.checked) own started (by kernel_rfl) Tryz.func4
    (ChangeSpec.witness6 (enc := enc) (C := Tryz.checked) false ⟨#[], #[.agg #[.slice none 0 0, .slice none 0 0], .agg #[.int .i64 0, .slice none 0 0, .int .i64 0, .int .i64 0, .int .i64 0, .int .i64 0, .int .i64 0, .slice none 0 0, .int .i64 0, .slice none 0 0, .int .i64 0, .int .i64 0, .int .i64 0, .int .i64 0]], []⟩ 8 (by kernel_rfl) (by kernel_rfl) (by kernel_rfl) (by kernel_rfl)) ?_
  intro W base args ds gs before hval0 hW hcnd _
  have hval : ∀ (j : Nat) t v, Tryz.f4.params[j]? = some t → args[j]? = some v → Value.okWide Tryz.prog W .any base t v := hval0
  have hW' := hW
  obtain ⟨p, q, hA0, hV, rfl, hfz, hnd⟩ := hW
  have hA : DataW.TrodAll enc Tryz.prog W 0 (fun _ => true) true Tryz.f4.params.toList args.toList ds p := hA0
  rw [Tryz.params4] at hA hval
  obtain ⟨v0, vs0, e0, ds0, p0, q0, hargs, rfl, rfl, h0, hA⟩ := trodAll_cons hA
  obtain ⟨v1, vs1, e1, ds1, p1, q1, rfl, rfl, rfl, h1, hA⟩ := trodAll_cons hA
  obtain ⟨rfl, rfl, rfl⟩ := trodAll_nil hA
  have hargs : args = #[v0, v1] := by cases args; simp_all
  subst hargs
  obtain ⟨rfl, rfl⟩ := trodVars_none hV
  obtain ⟨cells0, hc0, hr0⟩ := Qv9 hT (n := 8) (by decide +kernel) (hval 0 26 v0 rfl rfl) h0
  obtain ⟨D0, hd0, L0⟩ := Xbc hc0
  rw [hd0] at hr0
  obtain ⟨cells1, hc1, hr1⟩ := Qv9 hT (n := 8) (by decide +kernel) (hval 1 50 v1 rfl rfl) h1
  obtain ⟨D1, hd1, L1⟩ := Qxi hc1
  rw [hd1] at hr1
  refine ((Qw4 D0 D1 L0 ⟨L1.1, L1.2.1, L1.2.2⟩).run W [v0, v1] rfl (fun j x u hx hu => ?_)).mono fun e W' he => ?_
  · match j with
    | 0 => simp only [List.getElem?_cons_zero, List.getElem?_cons_succ, Option.some.injEq] at hx hu; subst hx; subst hu; exact hr0
    | 1 => simp only [List.getElem?_cons_zero, List.getElem?_cons_succ, Option.some.injEq] at hx hu; subst hx; subst hu; exact hr1
    | j + 2 => simp at hx
  · obtain ⟨val, g', rfl, hrel, _, hv⟩ := he
    obtain rfl : val = .bool true := hv
    have hb := Xc5 hrel.frm
    have hlt : ∀ x ∈ (p0 ++ (p1 ++ [])), x.block < W.heap.size := fun x hx => hW'.lt x (List.mem_append_left _ hx)
    exact ⟨_, rfl, Qyi (pa := (p0 ++ (p1 ++ []))) (pv := []) hW' (fun _ _ _ => trodAll_mk1 (shut_bool Tryz.underlying4 _))
      (fun sp hs => (trodAll_cons_mk (Qtv laidOut (by kernel_rfl) (of_decide_eq_true (by kernel_rfl)) h0 hb (fun x hx => hlt x (by simp [hx])) (fun x hx => hs x (by simp [hx]))) (trodAll_cons_mk (Qtv laidOut (by kernel_rfl) (of_decide_eq_true (by kernel_rfl)) h1 hb (fun x hx => hlt x (by simp [hx])) (fun x hx => hs x (by simp [hx]))) trodAll_mk0))) (fun _ _ => rfl) rfl
      hb (ok_one (by kernel_rfl) rfl (okWide_bool_mk Tryz.underlying4 _))⟩
theorem fnExactStepThread_holds : Rows.FnExactStepThreadSaid :=
  OpenClaim.holds_of_wide 4 Tryz.f4 rfl rfl rfl rfl rfl rfl rfl ⟨rfl, rfl, rfl, rfl, rfl⟩ rfl rfl rfl rfl rfl (by kernel_rfl) Tryz.func4 (by kernel_rfl)
    (of_decide_eq_true (by kernel_rfl)) (by unfold Func.isWrapper; first | (rw [if_pos (by decide +kernel)]; kernel_rfl) | (rw [if_neg (by decide +kernel)]; exact ⟨rfl, rfl⟩))
    (fun os started H enc _ => lifted os started H enc)
end Go.Proofs.YtmiojnibngncaaaGreat
