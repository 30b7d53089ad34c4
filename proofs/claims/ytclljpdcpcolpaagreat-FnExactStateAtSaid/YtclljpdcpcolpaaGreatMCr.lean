/- The program's StateAt returns what the reference's returns, whatever the arguments, in memory of its own, and leaves what it is handed: no condition. -/
import Derived.Test.YtclljpdcpcolpaaGreatRows
import Derived.Test.YtclljpdcpcolpaaGreatMC
import Derived.Test.YtclljpdcpcolpaaGreatEc
import Derived.Test.YtclljpdcpcolpaaGreatChecked
import Derived.OpenShut
namespace Go.Proofs.YtclljpdcpcolpaaGreat
open Go Go.ChangeShapes Go.WideShapes Go.ChangeAt Go.RowKit
set_option linter.unusedVariables false
set_option linter.unusedSimpArgs false

theorem own : ownKnob Tryz.prog.godebug = none := by kernel_rfl
theorem laidOut : laidOutB Tryz.prog = true := by kernel_rfl

theorem listOf {α : Type} {enc : α → List PT} {Q : List PT → Prop} (h : ∀ r, Q r → ∃ e, r = enc e) : ∀ {rows : List (List PT)}, (∀ r ∈ rows, Q r) → ∃ es : List α, rows = es.map enc
  | [], _ => ⟨[], rfl⟩
  | r :: rows, hr => by
    obtain ⟨e, rfl⟩ := h r (hr r (List.mem_cons_self ..))
    obtain ⟨es, rfl⟩ := listOf h fun r h => hr r (List.mem_cons_of_mem _ h)
    exact ⟨e :: es, rfl⟩
theorem pty_entL {n : Nat} {r : List PT} (h : PTy ty (n + 2) 145 r) : ∃ e : EntS, r = e.enc := by
  simp only [PTy_st ty_145, PTyF_cons, PTyF_nil, PTy_it ty_3, PTy_bo ty_4] at h
  obtain ⟨_, _, rfl, ⟨o, rfl, _⟩, _, _, rfl, ⟨v, rfl, _⟩, _, _, rfl, ⟨ol, rfl, _⟩, _, _, rfl, ⟨nw, rfl, _⟩, _, _, rfl, ⟨b, rfl⟩, rfl⟩ := h
  exact ⟨⟨o, v, ol, nw, b⟩, rfl⟩
theorem pty_headL {n : Nat} {r : List PT} (h : PTy ty (n + 2) 122 r) : ∃ e : HeadD, r = e.enc := by
  simp only [PTy_st ty_122, PTyF_cons, PTyF_nil, PTy_it ty_3] at h
  obtain ⟨_, _, rfl, ⟨o, rfl, _⟩, _, _, rfl, ⟨v, rfl, _⟩, _, _, rfl, ⟨ol, rfl, _⟩, rfl⟩ := h
  exact ⟨⟨o, v, ol⟩, rfl⟩
theorem pty_insL {n : Nat} {r : List PT} (h : PTy ty (n + 2) 143 r) : ∃ e : InsS, r = e.enc := by
  simp only [PTy_st ty_143, PTyF_cons, PTyF_nil, PTy_it ty_3] at h
  obtain ⟨_, _, rfl, ⟨o, rfl, _⟩, _, _, rfl, ⟨v, rfl, _⟩, _, _, rfl, ⟨ol, rfl, _⟩, rfl⟩ := h
  exact ⟨⟨o, v, ol⟩, rfl⟩
theorem pty_frL {n : Nat} {r : List PT} (h : PTy ty (n + 2) 147 r) : ∃ e : FrameD, r = e.enc := by
  simp only [PTy_st ty_147, PTyF_cons, PTyF_nil, PTy_it ty_3] at h
  obtain ⟨_, _, rfl, ⟨o, rfl, _⟩, _, _, rfl, ⟨v, rfl, _⟩, _, _, rfl, ⟨ol, rfl, _⟩, rfl⟩ := h
  exact ⟨⟨o, v, ol⟩, rfl⟩
theorem pty_evL {n : Nat} {r : List PT} (h : PTy ty (n + 2) 97 r) : ∃ e : EventD, r = e.enc := by
  simp only [PTy_st ty_97, PTyF_cons, PTyF_nil, PTy_it ty_3] at h
  obtain ⟨_, _, rfl, ⟨a, rfl, _⟩, _, _, rfl, ⟨b, rfl, _⟩, _, _, rfl, ⟨c, rfl, _⟩, _, _, rfl, ⟨d, rfl, _⟩, rfl⟩ := h
  exact ⟨⟨a, b, c, d⟩, rfl⟩
theorem pty_ints {n : Nat} : ∀ {rows : List (List PT)}, (∀ r ∈ rows, PTy ty (n + 1) 3 r) → ∃ xs : List Int, rows = rowsN xs
  | [], _ => ⟨[], rfl⟩
  | r :: rows, hr => by
    have h := hr r (List.mem_cons_self ..)
    simp only [PTy_it ty_3] at h
    obtain ⟨m, rfl, _⟩ := h
    obtain ⟨xs, rfl⟩ := pty_ints fun r h => hr r (List.mem_cons_of_mem _ h)
    exact ⟨m :: xs, rfl⟩
theorem pty_descR {n : Nat} {r : List PT} (h : PTy ty (n + 4) 111 r) : ∃ d : DescS, r = rowT 145 d ∧ d.entries.length ≤ 9223372036854775807 := by
  simp only [PTy_st ty_111, PTyF_cons, PTyF_nil, PTy_it ty_3, PTy_sl ty_82] at h
  obtain ⟨_, _, rfl, ⟨o, rfl, _⟩, _, _, rfl, ⟨s, rfl, _⟩, _, _, rfl, ⟨rows, rfl, hl, hr⟩, rfl⟩ := h
  obtain ⟨es, rfl⟩ := listOf (fun r h => pty_entL (n := n) h) hr
  simp only [List.length_map, maxLen] at hl
  exact ⟨⟨o, s, es⟩, rfl, by show es.length ≤ _; omega⟩
theorem descsOf {n : Nat} : ∀ {rows : List (List PT)}, (∀ r ∈ rows, PTy ty (n + 4) 111 r) → ∃ ds : List DescS, rows = rowsD 145 ds ∧ ∀ d ∈ ds, d.entries.length ≤ 9223372036854775807
  | [], _ => ⟨[], rfl, fun d hd => by simp at hd⟩
  | r :: rows, hr => by
    obtain ⟨d, rfl, hd⟩ := pty_descR (hr r (List.mem_cons_self ..))
    obtain ⟨ds, rfl, hds⟩ := descsOf fun r h => hr r (List.mem_cons_of_mem _ h)
    refine ⟨d :: ds, rfl, fun x hx => ?_⟩
    rcases List.mem_cons.1 hx with rfl | hx
    · exact hd
    · exact hds x hx
theorem pty_storeR {n : Nat} {cells : List PT} (h : PTy ty (n + 6) 26 cells) : ∃ s : StoreD, cells = [.list 122 (rowsH s.heads), .list 111 (rowsD 145 s.descs)] ∧ s.fits := by
  simp only [PTy_st ty_26, PTyF_cons, PTyF_nil, PTy_sl ty_23, PTy_sl ty_24] at h
  obtain ⟨_, _, rfl, ⟨rh, rfl, lh, hh⟩, _, _, rfl, ⟨rd, rfl, ld, hd⟩, rfl⟩ := h
  obtain ⟨hs, rfl⟩ := listOf (fun r h => pty_headL (n := n + 2) h) hh
  obtain ⟨ds, rfl, hds⟩ := descsOf hd
  rw [rowsD_len] at ld
  simp only [List.length_map, maxLen] at lh ld
  exact ⟨⟨hs, ds⟩, rfl, by show hs.length ≤ _; omega, by show ds.length ≤ _; omega, hds⟩
theorem pty_threadR {n : Nat} {r : List PT} (h : PTy ty (n + 4) 85 r) : ∃ t : ThreadD, r = rowTh 143 145 147 t ∧ t.fits := by
  simp only [PTy_st ty_85, PTyF_cons, PTyF_nil, PTy_it ty_3, PTy_sl ty_80, PTy_sl ty_82, PTy_sl ty_83, PTy_ar ty_81, arF, List.range_succ, List.range_zero, List.map_cons, List.map_nil, List.map_append, List.nil_append, List.cons_append] at h
  obtain ⟨_, _, rfl, ⟨i, rfl, _⟩, _, _, rfl, ⟨rp, rfl, lp, hp⟩, _, _, rfl, ⟨pc, rfl, _⟩, _, _, rfl, ⟨_, _, rfl, ⟨r0, rfl, _⟩, _, _, rfl, ⟨r1, rfl, _⟩, _, _, rfl, ⟨r2, rfl, _⟩, _, _, rfl, ⟨r3, rfl, _⟩, rfl⟩, _, _, rfl, ⟨ro, rfl, lo, ho⟩, _, _, rfl, ⟨ck, rfl, _⟩, _, _, rfl, ⟨rs, rfl, ls, hs⟩,
    _, _, rfl, ⟨mi, rfl, _⟩, _, _, rfl, ⟨st, rfl, _⟩, _, _, rfl, ⟨co, rfl, _⟩, _, _, rfl, ⟨fa, rfl, _⟩, rfl⟩ := h
  obtain ⟨ps, rfl⟩ := listOf (fun r h => pty_insL (n := n) h) hp
  obtain ⟨os, rfl⟩ := listOf (fun r h => pty_entL (n := n) h) ho
  obtain ⟨ss, rfl⟩ := listOf (fun r h => pty_frL (n := n) h) hs
  simp only [List.length_map, maxLen] at lp lo ls
  exact ⟨⟨i, ps, pc, r0, r1, r2, r3, os, ck, ss, mi, st, co, fa⟩, rfl, by show ps.length ≤ _; omega, by show os.length ≤ _; omega, by show ss.length ≤ _; omega⟩
theorem threadsOf {n : Nat} : ∀ {rows : List (List PT)}, (∀ r ∈ rows, PTy ty (n + 4) 85 r) → ∃ ts : List ThreadD, rows = rowsTh 143 145 147 ts ∧ ∀ t ∈ ts, t.fits
  | [], _ => ⟨[], rfl, fun d hd => by simp at hd⟩
  | r :: rows, hr => by
    obtain ⟨d, rfl, hd⟩ := pty_threadR (hr r (List.mem_cons_self ..))
    obtain ⟨ds, rfl, hds⟩ := threadsOf fun r h => hr r (List.mem_cons_of_mem _ h)
    refine ⟨d :: ds, rfl, fun x hx => ?_⟩
    rcases List.mem_cons.1 hx with rfl | hx
    · exact hd
    · exact hds x hx
theorem pty_world {cells : List PT} (h : PTy ty 8 30 cells) : ∃ w : WorldD, argVV ty 30 cells = .agg (w.cells 3 122 111 145 85 143 147 97) ∧ w.fits := by
  simp only [PTy_st ty_30, PTyF_cons, PTyF_nil, PTy_sl ty_22, PTy_sl ty_27, PTy_sl ty_28] at h
  obtain ⟨_, _, rfl, ⟨r0, rfl, l0, h0⟩, _, _, rfl, h1, _, _, rfl, ⟨r2, rfl, l2, h2⟩, _, _, rfl, ⟨r3, rfl, l3, h3⟩, rfl⟩ := h
  obtain ⟨xs, rfl⟩ := pty_ints (n := 5) h0
  obtain ⟨s, rfl, hsf⟩ := pty_storeR (n := 1) h1
  obtain ⟨ts, rfl, hts⟩ := threadsOf (n := 2) h2
  obtain ⟨es, rfl⟩ := listOf (fun r h => pty_evL (n := 4) h) h3
  rw [rowsN_len] at l0
  rw [rowsTh_len] at l2
  simp only [List.length_map, maxLen] at l0 l2 l3
  exact ⟨⟨xs, s, ts, es⟩, rfl, by show xs.length ≤ _; omega, hsf, by show ts.length ≤ _; omega, hts, by show es.length ≤ _; omega⟩
theorem pty_int {cells : List PT} (h : PTy ty 8 3 cells) : ∃ n : Int, argVV ty 3 cells = .int .i64 n ∧ True := by
  simp only [PTy_it ty_3] at h
  obtain ⟨n, rfl, _⟩ := h
  exact ⟨n, rfl, trivial⟩

set_option maxRecDepth 100000 in
theorem lifted (os : Os) (started : os.Started) (H : Type) (enc : TypeId × Value → H) :
    ReturnsInHanded {} Tryz.checked os 5 .any (Rows.fnExactStateAtSpec.pre6 enc Tryz.prog Tryz.f5 Rows.fnExactStateAtRow.domain false) (Rows.fnExactStateAtSpec.post enc Tryz.prog Tryz.f5 false true false false) := by
  refine returnsInHanded_of_change (C := Tryz.checked) own started (by kernel_rfl) Tryz.func5
    (ChangeSpec.witness6 (enc := enc) (C := Tryz.checked) false ⟨#[], #[.agg #[.slice none 0 0, .slice none 0 0, .slice none 0 0, .slice none 0 0, .slice none 0 0], .int .i64 0], []⟩ 8 (by kernel_rfl) (by kernel_rfl) (by kernel_rfl) (by kernel_rfl)) ?_
  intro W base args ds gs before hval0 hW hcnd _
  have hval : ∀ (j : Nat) t v, Tryz.f5.params[j]? = some t → args[j]? = some v → Value.okWide Tryz.prog W .any base t v := hval0
  have hW' := hW
  obtain ⟨p, q, hA0, hV, rfl, hfz, hnd⟩ := hW
  have hA : DataW.TrodAll enc Tryz.prog W 0 (fun _ => true) true Tryz.f5.params.toList args.toList ds p := hA0
  rw [Tryz.params5] at hA hval
  obtain ⟨v0, vs0, e0, ds0, p0, q0, hargs, rfl, rfl, h0, hA⟩ := trodAll_cons hA
  obtain ⟨v1, vs1, e1, ds1, p1, q1, rfl, rfl, rfl, h1, hA⟩ := trodAll_cons hA
  obtain ⟨rfl, rfl, rfl⟩ := trodAll_nil hA
  have hargs : args = #[v0, v1] := by cases args; simp_all
  subst hargs
  obtain ⟨rfl, rfl⟩ := trodVars_none hV
  obtain ⟨cells0, hc0, hr0⟩ := arg_read hT (n := 8) (by decide +kernel) (hval 0 30 v0 rfl rfl) h0
  obtain ⟨D0, hd0, L0⟩ := pty_world hc0
  rw [hd0] at hr0
  obtain ⟨cells1, hc1, hr1⟩ := arg_read hT (n := 8) (by decide +kernel) (hval 1 3 v1 rfl rfl) h1
  obtain ⟨D1, hd1, L1⟩ := pty_int hc1
  rw [hd1] at hr1
  refine ((stateLaw_ok D0 D1 L0).run W [v0, v1] rfl (fun j x u hx hu => ?_)).mono fun e W' he => ?_
  · match j with
    | 0 => simp only [List.getElem?_cons_zero, List.getElem?_cons_succ, Option.some.injEq] at hx hu; subst hx; subst hu; exact hr0
    | 1 => simp only [List.getElem?_cons_zero, List.getElem?_cons_succ, Option.some.injEq] at hx hu; subst hx; subst hu; exact hr1
    | j + 2 => simp at hx
  · obtain ⟨val, g', rfl, hrel, _, hv⟩ := he
    obtain rfl : val = .bool true := hv
    have hb := below_of hrel.frm
    have hlt : ∀ x ∈ (p0 ++ (p1 ++ [])), x.block < W.heap.size := fun x hx => hW'.lt x (List.mem_append_left _ hx)
    exact ⟨_, rfl, post_below (pa := (p0 ++ (p1 ++ []))) (pv := []) hW' (fun _ _ _ => trodAll_mk1 (shut_bool Tryz.underlying4 _))
      (fun sp hs => (trodAll_cons_mk (stays_one laidOut (by kernel_rfl) (of_decide_eq_true (by kernel_rfl)) h0 hb (fun x hx => hlt x (by simp [hx])) (fun x hx => hs x (by simp [hx]))) (trodAll_cons_mk (stays_one laidOut (by kernel_rfl) (of_decide_eq_true (by kernel_rfl)) h1 hb (fun x hx => hlt x (by simp [hx])) (fun x hx => hs x (by simp [hx]))) trodAll_mk0))) (fun _ _ => rfl) rfl
      hb (ok_one (by kernel_rfl) rfl (okWide_bool_mk Tryz.underlying4 _))⟩

theorem fnExactStateAt_holds : Rows.FnExactStateAtSaid :=
  OpenClaim.holds_of_wide 5 Tryz.f5 rfl rfl rfl rfl rfl rfl rfl ⟨rfl, rfl, rfl, rfl, rfl⟩ rfl rfl rfl rfl rfl (by kernel_rfl) Tryz.func5 (by kernel_rfl)
    (of_decide_eq_true (by kernel_rfl)) (by unfold Func.isWrapper; first | (rw [if_pos (by decide +kernel)]; kernel_rfl) | (rw [if_neg (by decide +kernel)]; exact ⟨rfl, rfl⟩))
    (fun os started H enc _ => lifted os started H enc)
end Go.Proofs.YtclljpdcpcolpaaGreat
