/- The value-level engine, nineteenth part: two operations of a region in either order. -/
import Derived.Test.YtclljpdcpcolpaaEngR
namespace Go.Proofs.Ytclljpdcpcolpaa
open Go Go.RowKit
set_option linter.unusedVariables false
set_option linter.unusedSimpArgs false

section
variable {P : Program} {E : Env} {g g' : Gh} {s s2 s' : St} {a : Act} {w w' : World} {ty : Ty} {ops : Array Oper} {o : Oper}

theorem addH_ov (n : Nat) (l : List (TypeId × List (List PT))) (H : Heap) : addH n l H = ov n (n + l.length) (fun T => Hp l (T - n)) H := by
  funext T
  rw [addH_eq]
  rfl

theorem put_eff {d : Option Nat} {v : VV} : ({ s with tm := putf d v s.tm } : St) = eff d v (fun _ => .dead) s.nx s := by
  simp only [eff, ov_nil]

theorem fcall_mem {f : FuncId} {xs : List Operand} {ts : List TypeId} {caps : List VV} (h : fcall s o = some (f, xs, ts, caps)) : (∀ x ∈ xs, x ∈ o.op.operands.toList) ∧
    (caps = [] ∨ ∃ t ∈ o.looksAt ops, s.tm t = .clo f caps ∧ caps.all capOk = true) := by
  rcases fcall_spec h with ⟨h1, this⟩ | ⟨t, h1, h2, this⟩
  · refine ⟨fun x hx => ?_, .inl h1⟩
    rw [this]
    simp only [Op.operands, Call.operands, Array.toList_append]
    exact List.mem_append_right _ (by simpa using hx)
  · refine ⟨fun x hx => ?_, .inr ⟨t, mem_looks ?_, h1, h2⟩⟩
    · rw [this]
      simp only [Op.operands, Call.operands, Array.toList_append]
      exact List.mem_append_right _ (by simpa using hx)
    · rw [this]
      simp [Op.operands, Call.operands]

theorem vstep_quiet (hl : s.lim ≠ none) (hq : quietOp o = true) (h : vstep P ty ops o s s') : ∃ v δ n', s.nx ≤ n' ∧ (∀ m, s.lim = some m → s.nx ≤ m → n' ≤ m) ∧ s' = eff o.dst v δ n' s ∧ ∀ s2, Agree ops o s s2 → vstep P ty ops o s2 (eff o.dst v δ n' s2) := by
  unfold vstep vop at h
  split at h
  · rename_i hw
    have hw2 : ∀ s2, Agree ops o s s2 → vwant ops s2 o = some true := fun s2 ha => by rw [vwant_agree ha.tm, hw]
    split at h
    · rename_i f xs ts caps hf
      replace h := h.resolve_right fun hh => hl hh.1
      obtain ⟨hok, v, l, hS, hroom, s1, hput, hk⟩ := h
      subst hk
      have hput' : ({ s with H := ov s.nx (s.nx + l.length) (fun T => Hp l (T - s.nx)) s.H, nx := s.nx + l.length } : St).putd o.dst (shV s.nx v) = some s1 := by
        rw [← addH_ov]; exact hput
      obtain ⟨h1, h2⟩ := eff_putd hput'
      refine ⟨_, _, _, Nat.le_add_right _ _, fun m hm _ => room_le hroom m hm, h1, fun s2 ha => ?_⟩
      obtain ⟨mx, mc⟩ := fcall_mem (ops := ops) hf
      obtain ⟨k1, k2⟩ := handed_agree (ty := ty) ha.tm ha.H ha.D xs ts mx
      have k3 : ∀ x ∈ handed ty s xs ts ++ caps, frzA s2.H x = frzA s.H x ∧ (frzOk s2.H x ↔ frzOk s.H x) := by
        intro x hx
        rcases List.mem_append.1 hx with hx' | hx'
        · exact frzA_agree (k2 x hx').1 (k2 x hx').2
        · rcases mc with rfl | ⟨t, ht, htm, hall⟩
          · simp at hx'
          · have h1 := ha.H t ht
            have h2 := ha.D t ht
            rw [htm] at h1 h2
            have hokx := List.all_eq_true.mp hall x hx'
            cases x with
            | bp T j => exact frzA_agree (x := .bp T j) (fun X hX => h1 X (by
                simp only [toks, tokA, tokC, List.mem_flatMap]
                exact ⟨_, hx', hX⟩)) (fun X hX => h2 X (by simp only [deepA, deepC, List.mem_flatMap]; exact ⟨_, hx', hX⟩))
            | fp row => exact ⟨rfl, Iff.rfl⟩
            | _ => simp [capOk] at hokx
      unfold vstep vop
      rw [hw2 s2 ha, fcall_agree ha.tm, hf]
      simp only
      refine .inl ⟨fun x hx => ?_, v, l, ?_, ?_, _, ?_, rfl⟩
      · rw [k1] at hx
        exact (k3 x hx).2.2 (hok x hx)
      · rw [k1]
        have : (handed ty s xs ts ++ caps).map (frzA s2.H) = (handed ty s xs ts ++ caps).map (frzA s.H) := List.map_congr_left fun x hx => (k3 x hx).1
        rw [this]
        exact hS
      · simp only [St.room, ha.lim, ha.nx]; exact hroom
      · have := h2 s2 ha.N
        rw [ha.nx] at this ⊢
        show ({ s2 with H := addH s2.nx l s2.H, nx := s2.nx + l.length } : St).putd o.dst _ = _
        rw [addH_ov, ha.nx]
        exact this
    · rename_i hf
      obtain ⟨s1, hx, hk⟩ := h
      subst hk
      obtain ⟨v, δ, n', h1, h2, h3, h4⟩ := vexec_loc (ops := ops) hq hx
      refine ⟨v, δ, n', h1, h2, h3, fun s2 ha => ?_⟩
      unfold vstep vop
      rw [hw2 s2 ha, fcall_agree ha.tm, hf]
      exact ⟨_, h4 s2 ha, rfl⟩
  · rename_i hw
    obtain ⟨s1, hput, hk⟩ := h
    subst hk
    obtain ⟨h1, h2⟩ := putd_putf hput
    rw [put_eff] at h1
    refine ⟨_, _, _, Nat.le_refl _, fun m _ hm => hm, h1, fun s2 ha => ?_⟩
    unfold vstep vop
    rw [vwant_agree ha.tm, hw]
    refine ⟨_, h2 s2 ha.N, ?_⟩
    rw [put_eff, ha.nx]
  · exact h.elim

theorem dry_vval (hd : dryOp o = true) (htm : ∀ t ∈ o.looksAt ops, s2.tm t = s.tm t) : vexec ty s2 o = (match o.op with | .build t parts => (vBuild ty t (evParts ty s t parts)).bind (s2.putd o.dst) | _ => (vval ty s o).bind (s2.putd o.dst)) := by
  have he : ∀ {x : Operand}, x ∈ o.op.operands.toList → ev s2 x = ev s x := fun hx => ev_agree htm hx
  unfold vexec
  cases ho : o.op with
  | move x => simp only [vval, ho, he (x := x) (by simp [ho, Op.operands])]
  | assign x => simp only [vval, ho, he (x := x) (by simp [ho, Op.operands])]
  | pick c x y => simp only [vval, ho, he (x := x) (by simp [ho, Op.operands]), he (x := y) (by simp [ho, Op.operands]), he (x := c) (by simp [ho, Op.operands])]
  | binOp op t x y t' => simp only [vval, ho, he (x := x) (by simp [ho, Op.operands]), he (x := y) (by simp [ho, Op.operands])]
  | unOp op t x => simp only [vval, ho, he (x := x) (by simp [ho, Op.operands])]
  | convert t t' x => simp only [vval, ho, he (x := x) (by simp [ho, Op.operands])]
  | field t x f => simp only [vval, ho, he (x := x) (by simp [ho, Op.operands])]
  | index t x i => simp only [vval, ho, he (x := x) (by simp [ho, Op.operands]), he (x := i) (by simp [ho, Op.operands])]
  | extract x i => simp only [vval, ho, he (x := x) (by simp [ho, Op.operands])]
  | makeFunc fn fi ca =>
    have h1 : ca.toList.map (ev s2) = ca.toList.map (ev s) := List.map_congr_left fun x hx => he (by
      simp only [ho, Op.operands, Array.toList_append]
      exact List.mem_append_right _ hx)
    cases fn <;> simp only [vval, ho, h1]
  | build t parts =>
    simp only
    rw [evParts_agree htm (by
      intro p hp
      simp only [ho, Op.operands, List.mem_map]
      exact ⟨p, hp, rfl⟩)]
  | _ => simp [dryOp, ho] at hd

theorem dry_fcall (s : St) (hd : dryOp o = true) : fcall s o = none := by
  unfold fcall
  cases ho : o.op <;> first | rfl | (simp [dryOp, ho] at hd)

theorem vstep_dry (hd : dryOp o = true) (h : vstep P ty ops o s s') : ∃ v, s' = { s with tm := putf o.dst v s.tm } ∧ ∀ s2 : St, (∀ t ∈ o.looksAt ops, s2.tm t = s.tm t) → s2.N = s.N → vstep P ty ops o s2 { s2 with tm := putf o.dst v s2.tm } := by
  unfold vstep vop at h
  rw [dry_fcall s hd] at h
  split at h
  · rename_i hw
    obtain ⟨s1, hx, hk⟩ := h
    subst hk
    have key : ∃ x, s.putd o.dst x = some s1 ∧ ∀ s2 : St, (∀ t ∈ o.looksAt ops, s2.tm t = s.tm t) → vexec ty s2 o = s2.putd o.dst x := by
      have h0 := dry_vval (ty := ty) (s := s) (s2 := s) (ops := ops) hd (fun _ _ => rfl)
      rw [hx] at h0
      by_cases hb : ∃ t parts, o.op = .build t parts
      · obtain ⟨t, parts, ho⟩ := hb
        simp only [ho] at h0
        cases hv : vBuild ty t (evParts ty s t parts) with
        | none => rw [hv] at h0; cases h0
        | some x =>
          rw [hv] at h0
          refine ⟨x, h0.symm, fun s2 ht => ?_⟩
          rw [dry_vval hd ht]
          simp only [ho, hv]
          rfl
      · have hm : ∀ s2 : St, (match o.op with | .build t parts => (vBuild ty t (evParts ty s t parts)).bind (s2.putd o.dst) | _ => (vval ty s o).bind (s2.putd o.dst)) = (vval ty s o).bind (s2.putd o.dst) := fun s2 => by
          split
          · rename_i t parts ho; exact absurd ⟨t, parts, ho⟩ hb
          · rfl
        rw [hm] at h0
        cases hv : vval ty s o with
        | none => rw [hv] at h0; cases h0
        | some x =>
          rw [hv] at h0
          refine ⟨x, h0.symm, fun s2 ht => ?_⟩
          rw [dry_vval hd ht, hm, hv]
          rfl
    obtain ⟨x, hput, hall⟩ := key
    obtain ⟨h1, h2⟩ := putd_putf hput
    refine ⟨x, h1, fun s2 ht hN => ?_⟩
    unfold vstep vop
    rw [vwant_agree ht, hw, dry_fcall s2 hd]
    exact ⟨_, by rw [hall s2 ht]; exact h2 s2 hN, rfl⟩
  · rename_i hw
    obtain ⟨s1, hput, hk⟩ := h
    subst hk
    obtain ⟨h1, h2⟩ := putd_putf hput
    refine ⟨_, h1, fun s2 ht hN => ?_⟩
    unfold vstep vop
    rw [vwant_agree ht, hw]
    exact ⟨_, h2 s2 hN, rfl⟩
  · exact h.elim

/-- Whatever an operation does, it does it wherever it sees the same. -/
theorem vstep_wild (hl : s.lim ≠ none) (h : vstep P ty ops o s s') : ∃ v H' n', s.nx ≤ n' ∧ (∀ m, s.lim = some m → s.nx ≤ m → n' ≤ m) ∧ s' = { s with tm := putf o.dst v s.tm, H := H', nx := n' } ∧
    ∀ s2 : St, (∀ t ∈ o.looksAt ops, s2.tm t = s.tm t) → s2.H = s.H → s2.nx = s.nx → s2.lim = s.lim → s2.N = s.N → vstep P ty ops o s2 { s2 with tm := putf o.dst v s2.tm, H := H', nx := n' } := by
  by_cases hq : quietOp o = true
  · obtain ⟨v, δ, n', h1, h2, h3, h4⟩ := vstep_quiet hl hq h
    refine ⟨v, ov s.nx n' δ s.H, n', h1, h2, h3, fun s2 ht hH hn hl hN => ?_⟩
    have := h4 s2 ⟨hn, hl, hN, ht, fun t _ T _ => by rw [hH], fun t _ T _ => by rw [hH]⟩
    simp only [eff, hn, hH] at this
    exact this
  · unfold vstep vop at h
    split at h
    · rename_i hw
      have hf : ∀ s, fcall s o = none := by
        intro s
        unfold fcall
        cases ho : o.op <;> try rfl
        rename_i c
        simp only
        cases hc : c.callee <;> try rfl
        simp [quietOp, ho, hc] at hq
      rw [hf] at h
      obtain ⟨s1, hx, hk⟩ := h
      subst hk
      have fin : (∃ v H' n', s.nx ≤ n' ∧ (∀ m, s.lim = some m → s.nx ≤ m → n' ≤ m) ∧ s1 = { s with tm := putf o.dst v s.tm, H := H', nx := n' } ∧
          ∀ s2 : St, (∀ t ∈ o.looksAt ops, s2.tm t = s.tm t) → s2.H = s.H → s2.nx = s.nx → s2.lim = s.lim → s2.N = s.N → vexec ty s2 o = some { s2 with tm := putf o.dst v s2.tm, H := H', nx := n' }) →
          ∃ v H' n', s.nx ≤ n' ∧ (∀ m, s.lim = some m → s.nx ≤ m → n' ≤ m) ∧ s1 = { s with tm := putf o.dst v s.tm, H := H', nx := n' } ∧
          ∀ s2 : St, (∀ t ∈ o.looksAt ops, s2.tm t = s.tm t) → s2.H = s.H → s2.nx = s.nx → s2.lim = s.lim → s2.N = s.N → vstep P ty ops o s2 { s2 with tm := putf o.dst v s2.tm, H := H', nx := n' } := by
        rintro ⟨v, H', n', h1, h2, h3, h4⟩
        refine ⟨v, H', n', h1, h2, h3, fun s2 ht hH hn hl hN => ?_⟩
        unfold vstep vop
        rw [vwant_agree ht, hw, hf]
        exact ⟨_, h4 s2 ht hH hn hl hN, rfl⟩
      refine fin ?_
      have hroom : ∀ (s2 : St) k, s2.nx = s.nx → s2.lim = s.lim → s2.room k = s.room k := fun s2 k hn hl => by simp only [St.room, hl, hn]
      unfold vexec at hx ⊢
      cases ho : o.op with
      | store t x y =>
        simp only [ho] at hx ⊢
        cases hd : o.dst with
        | some d => rw [hd] at hx; cases hx
        | none =>
          rw [hd] at hx
          simp only at hx ⊢
          have e1 : ∀ s2 : St, (∀ t ∈ o.looksAt ops, s2.tm t = s.tm t) → ev s2 x = ev s x ∧ ev s2 y = ev s y := fun s2 ht => ⟨ev_agree ht (by simp [ho, Op.operands]), ev_agree ht (by simp [ho, Op.operands])⟩
          have key : ∃ H' n', s.nx ≤ n' ∧ (∀ m, s.lim = some m → s.nx ≤ m → n' ≤ m) ∧ s1 = { s with H := H', nx := n' } ∧ ∀ s2 : St, s2.H = s.H → s2.nx = s.nx → s2.lim = s.lim → xStore ty s2 t (ev s x) (retype ty t (ev s y)) = some { s2 with H := H', nx := n' } := by
            unfold xStore at hx
            split at hx
            · cases hx
            · rename_i vs hvs
              split at hx
              · rename_i hsz
                split at hx
                · rename_i T j hxv
                  split at hx
                  · rename_i cs hcs
                    split at hx
                    · rename_i hj
                      simp only [Option.some.injEq] at hx
                      refine ⟨_, s.nx, Nat.le_refl _, fun m _ hm => hm, hx.symm, fun s2 hH hn hl => ?_⟩
                      unfold xStore
                      simp only [hvs, if_pos hsz, hxv, hH, hcs, if_pos hj, hn]
                    · cases hx
                  · cases hx
                · rename_i T i j hxv
                  split at hx
                  · rename_i ps n H2 htc
                    split at hx
                    · rename_i e rows hroot
                      split at hx
                      · rename_i r hr
                        split at hx
                        · rename_i hj
                          simp only [Option.some.injEq] at hx
                          refine ⟨_, n, toCells_le _ _ _ _ _ _ htc, fun m hm hmm => ?_, hx.symm, fun s2 hH hn hl => ?_⟩
                          · have := room_le hj.2 m hm
                            have := toCells_le _ _ _ _ _ _ htc
                            omega
                          · unfold xStore
                            simp only [hvs, if_pos hsz, hxv, hH, hn, htc, hroot, hr]
                            rw [if_pos (by rw [hroom s2 _ hn hl]; exact hj)]
                        · cases hx
                      · cases hx
                    · cases hx
                  · cases hx
                · cases hx
              · cases hx
          obtain ⟨H', n', h1, h2, h3, h4⟩ := key
          refine ⟨.any, H', n', h1, h2, h3, fun s2 ht hH hn hl hN => ?_⟩
          rw [(e1 s2 ht).1, (e1 s2 ht).2]
          exact h4 s2 hH hn hl
      | call c =>
        simp only [ho] at hx ⊢
        cases hcal : c.callee with
        | builtin b =>
          rw [hcal] at hx
          have hb : b = .append := by
            cases b <;> first | rfl | (simp [quietOp, ho, hcal] at hq)
          subst hb
          simp only at hx ⊢
          split at hx
          · rename_i x y t t' hargs hts
            have e1 : ∀ s2 : St, (∀ t ∈ o.looksAt ops, s2.tm t = s.tm t) → ev s2 x = ev s x ∧ ev s2 y = ev s y := fun s2 ht => by
              have hm : ∀ z ∈ c.args.toList, z ∈ o.op.operands.toList := fun z hz => by
                simp only [ho, Op.operands, Call.operands, Array.toList_append]
                exact List.mem_append_right _ hz
              exact ⟨ev_agree ht (hm x (by rw [hargs]; simp)), ev_agree ht (hm y (by rw [hargs]; simp))⟩
            split at hx
            · rename_i htt
              subst htt
              have hsr : ∀ s2 : St, s2.H = s.H → srcRows s2 (ev s y) = srcRows s (ev s y) ∧ ∀ e, srcTy s2 (ev s y) e = srcTy s (ev s y) e := fun s2 hH => by
                cases ev s y <;> first | exact ⟨rfl, fun _ => rfl⟩ | (constructor <;> simp only [srcRows, srcTy, hH, implies_true])
              suffices key : ∃ v H' n', s.nx ≤ n' ∧ (∀ m, s.lim = some m → s.nx ≤ m → n' ≤ m) ∧ s1 = { s with tm := putf o.dst v s.tm, H := H', nx := n' } ∧ ∀ s2 : St, s2.H = s.H → s2.nx = s.nx → s2.lim = s.lim → s2.N = s.N →
                  xAppend ty s2 t (retype ty t (ev s x)) (ev s y) o.dst = some { s2 with tm := putf o.dst v s2.tm, H := H', nx := n' } by
                obtain ⟨v, H', n', h1, h2, h3, h4⟩ := key
                refine ⟨v, H', n', h1, h2, h3, fun s2 ht hH hn hl hN => ?_⟩
                rw [if_pos rfl, (e1 s2 ht).1, (e1 s2 ht).2]
                exact h4 s2 hH hn hl hN
              unfold xAppend at hx
              split at hx
              · rename_i e _ _ _ ht
                split at hx
                · rename_i d ns hde hns
                  split at hx
                  · rename_i hc
                    split at hx
                    · rename_i e0 hxv
                      split at hx
                      · rename_i hb
                        obtain ⟨h1, h2⟩ := putd_putf hx
                        refine ⟨_, _, _, Nat.le_add_right _ 2, fun m hm _ => room_le hb.2.2 m hm, h1, fun s2 hH hn hl hN => ?_⟩
                        unfold xAppend
                        simp only [ht, hde, (hsr s2 hH).1, hns, (hsr s2 hH).2, if_pos hc, hxv]
                        rw [if_pos (by rw [hroom s2 _ hn hl]; exact hb), hn, hH]
                        exact h2 { s2 with H := _, nx := _ } hN
                      · cases hx
                    · rename_i T n hxv
                      split at hx
                      · rename_i e' rows hroot
                        split at hx
                        · rename_i hb
                          obtain ⟨h1, h2⟩ := putd_putf hx
                          refine ⟨_, _, _, Nat.le_add_right _ 1, fun m hm _ => room_le hb.2.2.2.2 m hm, h1, fun s2 hH hn hl hN => ?_⟩
                          unfold xAppend
                          simp only [ht, hde, (hsr s2 hH).1, hns, (hsr s2 hH).2, if_pos hc, hxv, hH, hroot]
                          rw [if_pos (by rw [hroom s2 _ hn hl]; exact hb), hn]
                          exact h2 { s2 with H := _, nx := _ } hN
                        · cases hx
                      · cases hx
                    · cases hx
                  · cases hx
                · cases hx
              · cases hx
            · cases hx
          · cases hx
        | _ => simp [quietOp, ho, hcal] at hq
      | _ => simp [quietOp, ho] at hq
    · rename_i hw
      obtain ⟨s1, hput, hk⟩ := h
      subst hk
      obtain ⟨h1, h2⟩ := putd_putf hput
      refine ⟨_, s.H, s.nx, Nat.le_refl _, fun m _ hm => hm, h1, fun s2 ht hH hn hl hN => ?_⟩
      unfold vstep vop
      rw [vwant_agree ht, hw]
      refine ⟨_, h2 s2 hN, ?_⟩
      rw [← hH, ← hn]
    · exact h.elim
end
end Go.Proofs.Ytclljpdcpcolpaa
