/- What the claim rests on, part 3: the value-level engine and contracts of functions; no condition. -/
import Derived.Test.YtmiojnibngncaaaGreatZQb
import Derived.Laws.BitsLemmas
import Derived.Test.YtmiojnibngncaaaGreatProg
import Derived.Carry
import Derived.DataReads
import Derived.ChangeSame
import Derived.ProofKit
import Derived.WideKeyArgs
namespace Go.Proofs.YtmiojnibngncaaaGreat
open Go Go.RowKit
set_option linter.unusedVariables false
set_option linter.unusedSimpArgs false
section
variable {P : Program} {E : Env} {g g' : Gh} {s s2 s' : St} {a : Act} {w w' : World} {ty : Ty} {ops : Array Oper} {o : Oper}
theorem Xau (n : Nat) (l : List (TypeId × List (List PT))) (H : Qbi) : Qs3 n l H = ov n (n + l.length) (fun T => Hp l (T - n)) H := by
  funext T
  rw [Qhv]
  rfl
theorem Xaf {d : Option Nat} {v : VV} : ({ s with tm := Qg9 d v s.tm } : St) = eff d v (fun _ => .dead) s.nx s := by
  simp only [eff, Qpc]
theorem Qq1 {f : FuncId} {xs : List Operand} {ts : List TypeId} {caps : List VV} (h : Qgt s o = some (f, xs, ts, caps)) : (∀ x ∈ xs, x ∈ o.op.operands.toList) ∧
    (caps = [] ∨ ∃ t ∈ o.looksAt ops, s.tm t = .clo f caps ∧ caps.all Qnr = true) := by
  rcases Qob h with ⟨h1, this⟩ | ⟨t, h1, h2, this⟩
  · refine ⟨fun x hx => ?_, .inl h1⟩
    rw [this]
    simp only [Op.operands, Call.operands, Array.toList_append]
    exact List.mem_append_right _ (by simpa using hx)
  · refine ⟨fun x hx => ?_, .inr ⟨t, Qha ?_, h1, h2⟩⟩
    · rw [this]
      simp only [Op.operands, Call.operands, Array.toList_append]
      exact List.mem_append_right _ (by simpa using hx)
    · rw [this]
      simp [Op.operands, Call.operands]
theorem Qir (hl : s.lim ≠ none) (hq : Qeu o = true) (h : Qdz P ty ops o s s') : ∃ v δ n', s.nx ≤ n' ∧ (∀ m, s.lim = some m → s.nx ≤ m → n' ≤ m) ∧ s' = eff o.dst v δ n' s ∧ ∀ s2, Agree ops o s s2 → Qdz P ty ops o s2 (eff o.dst v δ n' s2) := by
  unfold Qdz vop at h
  split at h
  · rename_i hw
    have hw2 : ∀ s2, Agree ops o s s2 → Qi8 ops s2 o = some true := fun s2 ha => by rw [Qet ha.tm, hw]
    split at h
    · rename_i f xs ts caps hf
      replace h := h.resolve_right fun hh => hl hh.1
      obtain ⟨hok, v, l, hS, hroom, s1, hput, hk⟩ := h
      subst hk
      have hput' : ({ s with H := ov s.nx (s.nx + l.length) (fun T => Hp l (T - s.nx)) s.H, nx := s.nx + l.length } : St).putd o.dst (shV s.nx v) = some s1 := by
        rw [← Xau]; exact hput
      obtain ⟨h1, h2⟩ := Qlh hput'
      refine ⟨_, _, _, Nat.le_add_right _ _, fun m hm _ => Qis hroom m hm, h1, fun s2 ha => ?_⟩
      obtain ⟨mx, mc⟩ := Qq1 (ops := ops) hf
      obtain ⟨k1, k2⟩ := Qfz (ty := ty) ha.tm ha.H ha.D xs ts mx
      have k3 : ∀ x ∈ Qcx ty s xs ts ++ caps, Qnd s2.H x = Qnd s.H x ∧ (Qgm s2.H x ↔ Qgm s.H x) := by
        intro x hx
        rcases List.mem_append.1 hx with hx' | hx'
        · exact Qon (k2 x hx').1 (k2 x hx').2
        · rcases mc with rfl | ⟨t, ht, htm, hall⟩
          · simp at hx'
          · have h1 := ha.H t ht
            have h2 := ha.D t ht
            rw [htm] at h1 h2
            have hokx := List.all_eq_true.mp hall x hx'
            cases x with
            | bp T j => exact Qon (x := .bp T j) (fun X hX => h1 X (by
                simp only [Qjt, Qzw, Quw, List.mem_flatMap]
                exact ⟨_, hx', hX⟩)) (fun X hX => h2 X (by simp only [Qe9, Qgr, List.mem_flatMap]; exact ⟨_, hx', hX⟩))
            | fp row => exact ⟨rfl, Iff.rfl⟩
            | _ => simp [Qnr] at hokx
      unfold Qdz vop
      rw [hw2 s2 ha, Qmx ha.tm, hf]
      simp only
      refine .inl ⟨fun x hx => ?_, v, l, ?_, ?_, _, ?_, rfl⟩
      · rw [k1] at hx
        exact (k3 x hx).2.2 (hok x hx)
      · rw [k1]
        have : (Qcx ty s xs ts ++ caps).map (Qnd s2.H) = (Qcx ty s xs ts ++ caps).map (Qnd s.H) := List.map_congr_left fun x hx => (k3 x hx).1
        rw [this]
        exact hS
      · simp only [St.room, ha.lim, ha.nx]; exact hroom
      · have := h2 s2 ha.N
        rw [ha.nx] at this ⊢
        show ({ s2 with H := Qs3 s2.nx l s2.H, nx := s2.nx + l.length } : St).putd o.dst _ = _
        rw [Xau, ha.nx]
        exact this
    · rename_i hf
      obtain ⟨s1, hx, hk⟩ := h
      subst hk
      obtain ⟨v, δ, n', h1, h2, h3, h4⟩ := Xco (ops := ops) hq hx
      refine ⟨v, δ, n', h1, h2, h3, fun s2 ha => ?_⟩
      unfold Qdz vop
      rw [hw2 s2 ha, Qmx ha.tm, hf]
      exact ⟨_, h4 s2 ha, rfl⟩
  · rename_i hw
    obtain ⟨s1, hput, hk⟩ := h
    subst hk
    obtain ⟨h1, h2⟩ := Qdq hput
    rw [Xaf] at h1
    refine ⟨_, _, _, Nat.le_refl _, fun m _ hm => hm, h1, fun s2 ha => ?_⟩
    unfold Qdz vop
    rw [Qet ha.tm, hw]
    refine ⟨_, h2 s2 ha.N, ?_⟩
    rw [Xaf, ha.nx]
  · exact h.elim
theorem Qp4 (hd : Qiq o = true) (htm : ∀ t ∈ o.looksAt ops, s2.tm t = s.tm t) : Qhu ty s2 o = (match o.op with | .build t parts => (Qif ty t (Qcn ty s t parts)).bind (s2.putd o.dst) | _ => (Qiv ty s o).bind (s2.putd o.dst)) := by
  have he : ∀ {x : Operand}, x ∈ o.op.operands.toList → ev s2 x = ev s x := fun hx => Qd8 htm hx
  unfold Qhu
  cases ho : o.op with
  | move x => simp only [Qiv, ho, he (x := x) (by simp [ho, Op.operands])]
  | assign x => simp only [Qiv, ho, he (x := x) (by simp [ho, Op.operands])]
  | pick c x y => simp only [Qiv, ho, he (x := x) (by simp [ho, Op.operands]), he (x := y) (by simp [ho, Op.operands]), he (x := c) (by simp [ho, Op.operands])]
  | binOp op t x y t' => simp only [Qiv, ho, he (x := x) (by simp [ho, Op.operands]), he (x := y) (by simp [ho, Op.operands])]
  | unOp op t x => simp only [Qiv, ho, he (x := x) (by simp [ho, Op.operands])]
  | convert t t' x => simp only [Qiv, ho, he (x := x) (by simp [ho, Op.operands])]
  | field t x f => simp only [Qiv, ho, he (x := x) (by simp [ho, Op.operands])]
  | index t x i => simp only [Qiv, ho, he (x := x) (by simp [ho, Op.operands]), he (x := i) (by simp [ho, Op.operands])]
  | extract x i => simp only [Qiv, ho, he (x := x) (by simp [ho, Op.operands])]
  | makeFunc fn fi ca =>
    have h1 : ca.toList.map (ev s2) = ca.toList.map (ev s) := List.map_congr_left fun x hx => he (by
      simp only [ho, Op.operands, Array.toList_append]
      exact List.mem_append_right _ hx)
    cases fn <;> simp only [Qiv, ho, h1]
  | build t parts =>
    simp only
    rw [Qgu htm (by
      intro p hp
      simp only [ho, Op.operands, List.mem_map]
      exact ⟨p, hp, rfl⟩)]
  | _ => simp [Qiq, ho] at hd
theorem Qsb (s : St) (hd : Qiq o = true) : Qgt s o = none := by
  unfold Qgt
  cases ho : o.op <;> first | rfl | (simp [Qiq, ho] at hd)
theorem Qjm (hd : Qiq o = true) (h : Qdz P ty ops o s s') : ∃ v, s' = { s with tm := Qg9 o.dst v s.tm } ∧ ∀ s2 : St, (∀ t ∈ o.looksAt ops, s2.tm t = s.tm t) → s2.N = s.N → Qdz P ty ops o s2 { s2 with tm := Qg9 o.dst v s2.tm } := by
  unfold Qdz vop at h
  rw [Qsb s hd] at h
  split at h
  · rename_i hw
    obtain ⟨s1, hx, hk⟩ := h
    subst hk
    have key : ∃ x, s.putd o.dst x = some s1 ∧ ∀ s2 : St, (∀ t ∈ o.looksAt ops, s2.tm t = s.tm t) → Qhu ty s2 o = s2.putd o.dst x := by
      have h0 := Qp4 (ty := ty) (s := s) (s2 := s) (ops := ops) hd (fun _ _ => rfl)
      rw [hx] at h0
      by_cases hb : ∃ t parts, o.op = .build t parts
      · obtain ⟨t, parts, ho⟩ := hb
        simp only [ho] at h0
        cases hv : Qif ty t (Qcn ty s t parts) with
        | none => rw [hv] at h0; cases h0
        | some x =>
          rw [hv] at h0
          refine ⟨x, h0.symm, fun s2 ht => ?_⟩
          rw [Qp4 hd ht]
          simp only [ho, hv]
          rfl
      · have hm : ∀ s2 : St, (match o.op with | .build t parts => (Qif ty t (Qcn ty s t parts)).bind (s2.putd o.dst) | _ => (Qiv ty s o).bind (s2.putd o.dst)) = (Qiv ty s o).bind (s2.putd o.dst) := fun s2 => by
          split
          · rename_i t parts ho; exact absurd ⟨t, parts, ho⟩ hb
          · rfl
        rw [hm] at h0
        cases hv : Qiv ty s o with
        | none => rw [hv] at h0; cases h0
        | some x =>
          rw [hv] at h0
          refine ⟨x, h0.symm, fun s2 ht => ?_⟩
          rw [Qp4 hd ht, hm, hv]
          rfl
    obtain ⟨x, hput, hall⟩ := key
    obtain ⟨h1, h2⟩ := Qdq hput
    refine ⟨x, h1, fun s2 ht hN => ?_⟩
    unfold Qdz vop
    rw [Qet ht, hw, Qsb s2 hd]
    exact ⟨_, by rw [hall s2 ht]; exact h2 s2 hN, rfl⟩
  · rename_i hw
    obtain ⟨s1, hput, hk⟩ := h
    subst hk
    obtain ⟨h1, h2⟩ := Qdq hput
    refine ⟨_, h1, fun s2 ht hN => ?_⟩
    unfold Qdz vop
    rw [Qet ht, hw]
    exact ⟨_, h2 s2 hN, rfl⟩
  · exact h.elim
theorem Qkh (hl : s.lim ≠ none) (h : Qdz P ty ops o s s') : ∃ v H' n', s.nx ≤ n' ∧ (∀ m, s.lim = some m → s.nx ≤ m → n' ≤ m) ∧ s' = { s with tm := Qg9 o.dst v s.tm, H := H', nx := n' } ∧
    ∀ s2 : St, (∀ t ∈ o.looksAt ops, s2.tm t = s.tm t) → s2.H = s.H → s2.nx = s.nx → s2.lim = s.lim → s2.N = s.N → Qdz P ty ops o s2 { s2 with tm := Qg9 o.dst v s2.tm, H := H', nx := n' } := by
  by_cases hq : Qeu o = true
  · obtain ⟨v, δ, n', h1, h2, h3, h4⟩ := Qir hl hq h
    refine ⟨v, ov s.nx n' δ s.H, n', h1, h2, h3, fun s2 ht hH hn hl hN => ?_⟩
    have := h4 s2 ⟨hn, hl, hN, ht, fun t _ T _ => by rw [hH], fun t _ T _ => by rw [hH]⟩
    simp only [eff, hn, hH] at this
    exact this
  · unfold Qdz vop at h
    split at h
    · rename_i hw
      have hf : ∀ s, Qgt s o = none := by
        intro s
        unfold Qgt
        cases ho : o.op <;> try rfl
        rename_i c
        simp only
        cases hc : c.callee <;> try rfl
        simp [Qeu, ho, hc] at hq
      rw [hf] at h
      obtain ⟨s1, hx, hk⟩ := h
      subst hk
      have fin : (∃ v H' n', s.nx ≤ n' ∧ (∀ m, s.lim = some m → s.nx ≤ m → n' ≤ m) ∧ s1 = { s with tm := Qg9 o.dst v s.tm, H := H', nx := n' } ∧
          ∀ s2 : St, (∀ t ∈ o.looksAt ops, s2.tm t = s.tm t) → s2.H = s.H → s2.nx = s.nx → s2.lim = s.lim → s2.N = s.N → Qhu ty s2 o = some { s2 with tm := Qg9 o.dst v s2.tm, H := H', nx := n' }) →
          ∃ v H' n', s.nx ≤ n' ∧ (∀ m, s.lim = some m → s.nx ≤ m → n' ≤ m) ∧ s1 = { s with tm := Qg9 o.dst v s.tm, H := H', nx := n' } ∧
          ∀ s2 : St, (∀ t ∈ o.looksAt ops, s2.tm t = s.tm t) → s2.H = s.H → s2.nx = s.nx → s2.lim = s.lim → s2.N = s.N → Qdz P ty ops o s2 { s2 with tm := Qg9 o.dst v s2.tm, H := H', nx := n' } := by
        rintro ⟨v, H', n', h1, h2, h3, h4⟩
        refine ⟨v, H', n', h1, h2, h3, fun s2 ht hH hn hl hN => ?_⟩
        unfold Qdz vop
        rw [Qet ht, hw, hf]
        exact ⟨_, h4 s2 ht hH hn hl hN, rfl⟩
      refine fin ?_
      have hroom : ∀ (s2 : St) k, s2.nx = s.nx → s2.lim = s.lim → s2.room k = s.room k := fun s2 k hn hl => by simp only [St.room, hl, hn]
      unfold Qhu at hx ⊢
      cases ho : o.op with
      | store t x y =>
        simp only [ho] at hx ⊢
        cases hd : o.dst with
        | some d => rw [hd] at hx; cases hx
        | none =>
          rw [hd] at hx
          simp only at hx ⊢
          have e1 : ∀ s2 : St, (∀ t ∈ o.looksAt ops, s2.tm t = s.tm t) → ev s2 x = ev s x ∧ ev s2 y = ev s y := fun s2 ht => ⟨Qd8 ht (by simp [ho, Op.operands]), Qd8 ht (by simp [ho, Op.operands])⟩
          have key : ∃ H' n', s.nx ≤ n' ∧ (∀ m, s.lim = some m → s.nx ≤ m → n' ≤ m) ∧ s1 = { s with H := H', nx := n' } ∧ ∀ s2 : St, s2.H = s.H → s2.nx = s.nx → s2.lim = s.lim → Qjq ty s2 t (ev s x) (Qdv ty t (ev s y)) = some { s2 with H := H', nx := n' } := by
            unfold Qjq at hx
            split at hx
            · cases hx
            · rename_i vs hvs
              split at hx
              · rename_i hsz
                split at hx
                · rename_i T j hxv
                  split at hx
                  · rename_i cs hcs
                    split at hx
                    · rename_i hj
                      simp only [Option.some.injEq] at hx
                      refine ⟨_, s.nx, Nat.le_refl _, fun m _ hm => hm, hx.symm, fun s2 hH hn hl => ?_⟩
                      unfold Qjq
                      simp only [hvs, if_pos hsz, hxv, hH, hcs, if_pos hj, hn]
                    · cases hx
                  · cases hx
                · rename_i T i j hxv
                  split at hx
                  · rename_i ps n H2 htc
                    split at hx
                    · rename_i e rows hroot
                      split at hx
                      · rename_i r hr
                        split at hx
                        · rename_i hj
                          simp only [Option.some.injEq] at hx
                          refine ⟨_, n, Qgg _ _ _ _ _ _ htc, fun m hm hmm => ?_, hx.symm, fun s2 hH hn hl => ?_⟩
                          · have := Qis hj.2 m hm
                            have := Qgg _ _ _ _ _ _ htc
                            omega
                          · unfold Qjq
                            simp only [hvs, if_pos hsz, hxv, hH, hn, htc, hroot, hr]
                            rw [if_pos (by rw [hroom s2 _ hn hl]; exact hj)]
                        · cases hx
                      · cases hx
                    · cases hx
                  · cases hx
                · cases hx
              · cases hx
          obtain ⟨H', n', h1, h2, h3, h4⟩ := key
          refine ⟨.any, H', n', h1, h2, h3, fun s2 ht hH hn hl hN => ?_⟩
          rw [(e1 s2 ht).1, (e1 s2 ht).2]
          exact h4 s2 hH hn hl
      | call c =>
        simp only [ho] at hx ⊢
        cases hcal : c.callee with
        | builtin b =>
          rw [hcal] at hx
          have hb : b = .append := by
            cases b <;> first | rfl | (simp [Qeu, ho, hcal] at hq)
          subst hb
          simp only at hx ⊢
          split at hx
          · rename_i x y t t' hargs hts
            have e1 : ∀ s2 : St, (∀ t ∈ o.looksAt ops, s2.tm t = s.tm t) → ev s2 x = ev s x ∧ ev s2 y = ev s y := fun s2 ht => by
              have hm : ∀ z ∈ c.args.toList, z ∈ o.op.operands.toList := fun z hz => by
                simp only [ho, Op.operands, Call.operands, Array.toList_append]
                exact List.mem_append_right _ hz
              exact ⟨Qd8 ht (hm x (by rw [hargs]; simp)), Qd8 ht (hm y (by rw [hargs]; simp))⟩
            split at hx
            · rename_i htt
              subst htt
              have hsr : ∀ s2 : St, s2.H = s.H → Qi0 s2 (ev s y) = Qi0 s (ev s y) ∧ ∀ e, Qte s2 (ev s y) e = Qte s (ev s y) e := fun s2 hH => by
                cases ev s y <;> first | exact ⟨rfl, fun _ => rfl⟩ | (constructor <;> simp only [Qi0, Qte, hH, implies_true])
              suffices key : ∃ v H' n', s.nx ≤ n' ∧ (∀ m, s.lim = some m → s.nx ≤ m → n' ≤ m) ∧ s1 = { s with tm := Qg9 o.dst v s.tm, H := H', nx := n' } ∧ ∀ s2 : St, s2.H = s.H → s2.nx = s.nx → s2.lim = s.lim → s2.N = s.N →
                  Qgw ty s2 t (Qdv ty t (ev s x)) (ev s y) o.dst = some { s2 with tm := Qg9 o.dst v s2.tm, H := H', nx := n' } by
                obtain ⟨v, H', n', h1, h2, h3, h4⟩ := key
                refine ⟨v, H', n', h1, h2, h3, fun s2 ht hH hn hl hN => ?_⟩
                rw [if_pos rfl, (e1 s2 ht).1, (e1 s2 ht).2]
                exact h4 s2 hH hn hl hN
              unfold Qgw at hx
              split at hx
              · rename_i e _ _ _ ht
                split at hx
                · rename_i d ns hde hns
                  split at hx
                  · rename_i hc
                    split at hx
                    · rename_i e0 hxv
                      split at hx
                      · rename_i hb
                        obtain ⟨h1, h2⟩ := Qdq hx
                        refine ⟨_, _, _, Nat.le_add_right _ 2, fun m hm _ => Qis hb.2.2 m hm, h1, fun s2 hH hn hl hN => ?_⟩
                        unfold Qgw
                        simp only [ht, hde, (hsr s2 hH).1, hns, (hsr s2 hH).2, if_pos hc, hxv]
                        rw [if_pos (by rw [hroom s2 _ hn hl]; exact hb), hn, hH]
                        exact h2 { s2 with H := _, nx := _ } hN
                      · cases hx
                    · rename_i T n hxv
                      split at hx
                      · rename_i e' rows hroot
                        split at hx
                        · rename_i hb
                          obtain ⟨h1, h2⟩ := Qdq hx
                          refine ⟨_, _, _, Nat.le_add_right _ 1, fun m hm _ => Qis hb.2.2.2.2 m hm, h1, fun s2 hH hn hl hN => ?_⟩
                          unfold Qgw
                          simp only [ht, hde, (hsr s2 hH).1, hns, (hsr s2 hH).2, if_pos hc, hxv, hH, hroot]
                          rw [if_pos (by rw [hroom s2 _ hn hl]; exact hb), hn]
                          exact h2 { s2 with H := _, nx := _ } hN
                        · cases hx
                      · cases hx
                    · cases hx
                  · cases hx
                · cases hx
              · cases hx
            · cases hx
          · cases hx
        | _ => simp [Qeu, ho, hcal] at hq
      | _ => simp [Qeu, ho] at hq
    · rename_i hw
      obtain ⟨s1, hput, hk⟩ := h
      subst hk
      obtain ⟨h1, h2⟩ := Qdq hput
      refine ⟨_, s.H, s.nx, Nat.le_refl _, fun m _ hm => hm, h1, fun s2 ht hH hn hl hN => ?_⟩
      unfold Qdz vop
      rw [Qet ht, hw]
      refine ⟨_, h2 s2 hN, ?_⟩
      rw [← hH, ← hn]
    · exact h.elim
end
def Qum (oi oj : Oper) : Bool := (Qeu oi && Qeu oj) || Qiq oi || Qiq oj
def Xai (P : Program) (ty : Ty) (ops : Array Oper) (o : Oper) (lo hi : Nat) (d d' : St) : Prop := ∃ s', Qdz P ty ops o (d.win lo hi) s' ∧ d' = s'.nm 0
def descs (ops : Array Oper) (i : Nat) : List Nat :=
  (List.range ops.size).foldl (fun acc j => match ops[j]? with
    | some o => if o.after.any (fun e => Region.binds .any e && (e.on == i || acc.contains e.on)) then j :: acc else acc
    | none => acc) []
def Qv3 (ops : Array Oper) : Bool :=
  (List.range ops.size).all fun j => match ops[j]? with
    | none => false
    | some oj => oj.after.all (fun e => !Region.binds .any e || decide (e.on < j)) && (List.range j).all fun i => (descs ops i).contains j || (match ops[i]? with
      | some oi => oi.apart ops oj && Qum oi oj
      | none => false)
def lo (b i : Nat) : Nat := b + i * 64
def hi (b i : Nat) : Nat := b + (i + 1) * 64
def Xe5 (P : Program) (ty : Ty) (ops : Array Oper) (b i : Nat) (d d' : St) : Prop := ∃ o, ops[i]? = some o ∧ Xai P ty ops o (lo b i) (hi b i) d d'
def Qs1 (P : Program) (ty : Ty) (ops : Array Oper) (b : Nat) : List Nat → St → (St → Prop) → Prop
  | [], d, K => K d
  | i :: L, d, K => ∃ d', Xe5 P ty ops b i d d' ∧ Qs1 P ty ops b L d' K
def Qbn (P : Program) (ty : Ty) (ops : Array Oper) : List Oper → Nat → Nat → St → (St → Prop) → Prop
  | [], k, b, s, K => K (s.nm (b + k * 64))
  | o :: rest, k, b, s, K => vop P ty ops o (s.win (b + k * 64) (b + (k + 1) * 64)) fun s' => Qbn P ty ops rest (k + 1) b s' K
section
variable {P : Program} {E : Env} {g g' : Gh} {s s2 s' d d1 d2 : St} {a : Act} {w w' : World} {ty : Ty} {ops : Array Oper} {o oi oj : Oper}
theorem Qpe {x : Option Nat} {v : VV} {f : Nat → VV} {t : Nat} (h : ∀ d, x = some d → t ≠ d) : Qg9 x v f t = f t := by
  cases x with
  | none => rfl
  | some d => exact Xa1 _ _ (h d rfl)
theorem Qho {x y : Option Nat} {u v : VV} {f : Nat → VV} (h : ∀ d, x = some d → y ≠ some d) : Qg9 x u (Qg9 y v f) = Qg9 y v (Qg9 x u f) := by
  cases x with
  | none => rfl
  | some d =>
    cases y with
    | none => rfl
    | some e =>
      have hne : e ≠ d := fun hh => h d rfl (by rw [hh])
      funext t
      simp only [Qg9, Qbo]
      by_cases c1 : t = d
      · have : t ≠ e := fun hh => hne (by rw [← hh, c1])
        simp [c1, Ne.symm hne]
      · simp [c1]
theorem Qs6 {li hI lj hJ : Nat} (hi1 : li ≤ hI) (hj1 : lj ≤ hJ) (hdis : hI ≤ lj ∨ hJ ≤ li) (hap : oi.apart ops oj = true) (hc : Qum oi oj = true)
    (hseen : ∀ t, ∀ T ∈ Qjt (d.tm t), ¬ (li ≤ T ∧ T < hI) ∧ ¬ (lj ≤ T ∧ T < hJ)) (hdeep : ∀ t, ∀ T ∈ Qe9 d.H (d.tm t), ¬ (li ≤ T ∧ T < hI) ∧ ¬ (lj ≤ T ∧ T < hJ)) (h1 : Xai P ty ops oi li hI d d1) (h2 : Xai P ty ops oj lj hJ d1 d2) :
    ∃ d', Xai P ty ops oj lj hJ d d' ∧ Xai P ty ops oi li hI d' d2 := by
  obtain ⟨a1, a2, a3⟩ := Oper.apart_spec hap
  obtain ⟨s1, h1, rfl⟩ := h1
  obtain ⟨s3, h2, rfl⟩ := h2
  have pi : ∀ (v : VV) (f : Nat → VV), ∀ t ∈ oj.looksAt ops, Qg9 oi.dst v f t = f t := fun v f t ht => Qpe fun d hd hh => a1 d hd (hh ▸ ht)
  have pj : ∀ (v : VV) (f : Nat → VV), ∀ t ∈ oi.looksAt ops, Qg9 oj.dst v f t = f t := fun v f t ht => Qpe fun d hd hh => a3 d hd (hh ▸ ht)
  have hq : (Qeu oi = true ∧ Qeu oj = true) ∨ Qiq oi = true ∨ Qiq oj = true := by
    simp only [Qum, Bool.or_eq_true, Bool.and_eq_true] at hc
    rcases hc with (h | h) | h
    · exact .inl h
    · exact .inr (.inl h)
    · exact .inr (.inr h)
  rcases hq with ⟨qi, qj⟩ | di | dj
  · obtain ⟨vi, δi, ni, n1, n2, rfl, n4⟩ := Qir (fun hh => by cases hh) qi h1
    have n2' : ni ≤ hI := n2 hI rfl hi1
    have n1' : li ≤ ni := n1
    obtain ⟨vj, δj, nj, m1, m2, rfl, m4⟩ := Qir (fun hh => by cases hh) qj h2
    have m2' : nj ≤ hJ := m2 hJ rfl hj1
    have m1' : lj ≤ nj := m1
    have e1 := m4 (d.win lj hJ) ⟨rfl, rfl, rfl, fun t ht => (pi vi d.tm t ht).symm, fun t ht T hT => by
      have hT' : T ∈ Qjt (d.tm t) := by
        have hh := pi vi d.tm t ht
        have hT : T ∈ Qjt (Qg9 oi.dst vi d.tm t) := hT
        rwa [hh] at hT
      have hns := (hseen t T hT').1
      show d.H T = ov li ni δi d.H T
      simp only [ov]
      rw [if_neg (by omega)], fun t ht T hT => by
      have hdd : Qe9 (ov li ni δi d.H) (d.tm t) = Qe9 d.H (d.tm t) := Quk fun X hX => by
        have hns := (hseen t X hX).1
        simp only [ov]
        rw [if_neg (by omega)]
      have hT' : T ∈ Qe9 d.H (d.tm t) := by
        have hh := pi vi d.tm t ht
        have hT : T ∈ Qe9 (ov li ni δi d.H) (Qg9 oi.dst vi d.tm t) := hT
        rwa [hh, hdd] at hT
      have hns := (hdeep t T hT').1
      show d.H T = ov li ni δi d.H T
      simp only [ov]
      rw [if_neg (by omega)]⟩
    refine ⟨_, ⟨_, e1, rfl⟩, _, n4 _ ⟨rfl, rfl, rfl, fun t ht => pj vj d.tm t ht, fun t ht T hT => ?_, fun t ht T hT => ?_⟩, ?_⟩
    rotate_left
    · have hT' : T ∈ Qe9 d.H (d.tm t) := hT
      have hns := (hdeep t T hT').2
      show ov lj nj δj d.H T = d.H T
      simp only [ov]
      rw [if_neg (by omega)]
    rotate_right
    · have hT' : T ∈ Qjt (d.tm t) := hT
      have hns := (hseen t T hT').2
      show ov lj nj δj d.H T = d.H T
      simp only [ov]
      rw [if_neg (by omega)]
    · simp only [eff, St.nm, St.win, St.mk.injEq, and_true]
      refine ⟨(Qho a2).symm, ?_⟩
      funext T
      simp only [ov]
      by_cases c1 : li ≤ T ∧ T < ni
      · have c2 : ¬ (lj ≤ T ∧ T < nj) := by omega
        simp [c1, c2]
      · simp [c1]
  · obtain ⟨vi, rfl, n4⟩ := Qjm di h1
    obtain ⟨vj, H', nj, m1, m2, rfl, m4⟩ := Qkh (fun hh => by cases hh) h2
    have e1 := m4 (d.win lj hJ) (fun t ht => (pi vi d.tm t ht).symm) rfl rfl rfl rfl
    refine ⟨_, ⟨_, e1, rfl⟩, _, n4 _ (fun t ht => pj vj d.tm t ht) rfl, ?_⟩
    simp only [St.nm, St.win, St.mk.injEq, and_true]
    exact (Qho a2).symm
  · obtain ⟨vi, H', ni, n1, n2, rfl, n4⟩ := Qkh (fun hh => by cases hh) h1
    obtain ⟨vj, rfl, m4⟩ := Qjm dj h2
    have e1 := m4 (d.win lj hJ) (fun t ht => (pi vi d.tm t ht).symm) rfl
    refine ⟨_, ⟨_, e1, rfl⟩, _, n4 _ (fun t ht => pj vj d.tm t ht) rfl rfl rfl rfl, ?_⟩
    simp only [St.nm, St.win, St.mk.injEq, and_true]
    exact (Qho a2).symm
theorem Xdu {H : Qbi} {x : VV} {v : Value} (h : Qie P E H g x v) : ∀ T ∈ tokP x, g.sn T = true := by
  cases x <;> intro T hT <;> simp only [tokP, List.mem_singleton, List.not_mem_nil] at hT
  all_goals (subst hT; exact h.1)
theorem Qru {H : Qbi} {x : VV} {v : Value} (h : Qea P E H g x v) : ∀ T ∈ Quw x, g.sn T = true := by
  cases x
  case clo f caps =>
    intro T hT
    obtain ⟨cs, h1, h2, h3⟩ := h
    simp only [Quw, List.mem_flatMap] at hT
    obtain ⟨c, hc, hT⟩ := hT
    obtain ⟨j, hj⟩ := List.getElem?_of_mem hc
    have hlt : j < cs.length := by rw [h2]; exact (List.getElem?_eq_some_iff.1 hj).1
    exact Xdu (h3 j c _ hj (List.getElem?_eq_getElem hlt)) T hT
  all_goals
    intro T hT
    simp only [Quw, List.mem_singleton, List.not_mem_nil] at hT
    try (subst hT; exact h.1)
theorem Qvn {H : Qbi} (hh : HRel P E g H w) {T j : Nat} {cs : List VV} (hT : H T = .box cs) : ∀ X ∈ (cs.drop j).flatMap Qkt, g.sn X = true := by
  intro X hX
  simp only [List.mem_flatMap] at hX
  obtain ⟨c, hc, hX⟩ := hX
  obtain ⟨k, hk⟩ := List.getElem?_of_mem hc
  rw [List.getElem?_drop] at hk
  obtain ⟨cur, e, _, _, hcell⟩ := hh.box T cs hT
  obtain ⟨_, _, u, _, hr⟩ := hcell _ c hk
  cases c <;> simp only [Qkt, List.mem_singleton, List.not_mem_nil] at hX
  subst hX
  exact hr.1
theorem Qom {H : Qbi} (hh : HRel P E g H w) (x : VV) : ∀ T ∈ Qgr H x, g.sn T = true := by
  intro X hX
  cases x with
  | bp T j =>
    simp only [Qgr] at hX
    split at hX
    · rename_i cs hT; exact Qvn hh hT X hX
    · cases hX
  | clo f caps =>
    simp only [Qgr, List.mem_flatMap] at hX
    obtain ⟨c, hc, hX⟩ := hX
    cases c with
    | bp T j =>
      simp only at hX
      split at hX
      · rename_i cs hT; exact Qvn hh hT X hX
      · cases hX
    | _ => cases hX
  | _ => simp [Qgr] at hX
theorem Qn3 {H : Qbi} (hh : HRel P E g H w) (x : VV) : ∀ T ∈ Qe9 H x, g.sn T = true := by
  intro X hX
  by_cases ha : ∃ vs, x = .agg vs
  · obtain ⟨vs, rfl⟩ := ha
    simp only [Qe9, List.mem_flatMap] at hX
    obtain ⟨c, _, hX⟩ := hX
    exact Qom hh c X hX
  · have : Qe9 H x = Qgr H x := by cases x <;> first | rfl | exact absurd ⟨_, rfl⟩ ha
    rw [this] at hX
    exact Qom hh x X hX
theorem Qr8 {H : Qbi} {x : VV} {v : Value} (h : Qju P E H g x v) : ∀ T ∈ Qzw x, g.sn T = true := by
  by_cases ha : ∃ vs, x = .agg vs
  · obtain ⟨vs, rfl⟩ := ha
    obtain ⟨cs, h1, h2, h3⟩ := h
    intro T hT
    simp only [Qzw, List.mem_flatMap] at hT
    obtain ⟨c, hc, hT⟩ := hT
    obtain ⟨j, hj⟩ := List.getElem?_of_mem hc
    have hlt : j < cs.length := by rw [h2]; exact (List.getElem?_eq_some_iff.1 hj).1
    exact Qru (h3 j c _ hj (List.getElem?_eq_getElem hlt)) T hT
  · have hne : ∀ vs, x ≠ .agg vs := fun vs hh => ha ⟨vs, hh⟩
    rw [Qhd hne] at h
    have : Qzw x = Quw x := by cases x <;> first | rfl | exact absurd rfl (hne _)
    rw [this]
    exact Qru h
theorem Qs9 {H : Qbi} {x : VV} {v : Value} (h : Qds P E H g x v) : ∀ T ∈ Qjt x, g.sn T = true := by
  by_cases ha : ∃ vs, x = .tup vs
  · obtain ⟨vs, rfl⟩ := ha
    obtain ⟨cs, h1, h2, h3⟩ := h
    intro T hT
    simp only [Qjt, List.mem_flatMap] at hT
    obtain ⟨c, hc, hT⟩ := hT
    obtain ⟨j, hj⟩ := List.getElem?_of_mem hc
    have hlt : j < cs.length := by rw [h2]; exact (List.getElem?_eq_some_iff.1 hj).1
    exact Qr8 (h3 j c _ hj (List.getElem?_eq_getElem hlt)) T hT
  · have hne : ∀ vs, x ≠ .tup vs := fun vs hh => ha ⟨vs, hh⟩
    rw [Qf4 hne] at h
    have : Qjt x = Qzw x := by cases x <;> first | rfl | exact absurd rfl (hne _)
    rw [this]
    exact Qr8 h
theorem Quo {n l h : Nat} (hr : Rel P E g (d.nm n) a w) (hf : ∀ T, l ≤ T → T < h → g.sn T = false) : Rel P E g (d.win l h) a w :=
  ⟨hr.size, hr.defers, hr.heap, fun T hT => hf T hT.1 hT.2, hr.tmps, hr.pin⟩
theorem Xbj {n : Nat} (hr : Rel P E g s a w) (hf : ∀ T, n ≤ T → g.sn T = false) : Rel P E g (s.nm n) a w :=
  ⟨hr.size, hr.defers, hr.heap, fun T hT => hf T hT.1, hr.tmps, hr.pin⟩
theorem Xg5 {K : Act → World → Prop} (h : o.wp P a w K (fun _ _ _ => False)) : ∃ a' w', K a' w' := by
  unfold Oper.wp at h
  generalize (execOp a.eval o).run P w = r at h
  cases r with
  | ok x w' =>
    cases x with
    | enter f args =>
      simp only [Oper.upon] at h
      obtain ⟨e, w2, fr, h1, _⟩ := h []
      cases e with
      | returned v => exact ⟨_, _, h1⟩
      | panicked c => exact h1.elim
      | outgrown => obtain ⟨_, _, hh⟩ := h1; exact hh.elim
    | row r args =>
      simp only [Oper.upon] at h
      obtain ⟨v, w2, h1, _⟩ := h default []
      exact ⟨_, _, h1⟩
    | _ => first | (simp only [Oper.upon] at h; done) | (simp only [Oper.upon] at h; exact ⟨_, _, h⟩)
  | halt x w' =>
    cases x <;> simp only [Oper.upon] at h
def Qv8 (g : Gh) (b n : Nat) (U : List Nat) : Prop := (∀ T, b + n * 64 ≤ T → g.sn T = false) ∧ ∀ i ∈ U, ∀ T, lo b i ≤ T → T < hi b i → g.sn T = false
theorem Qmv {b n : Nat} {U : List Nat} {i : Nat} (hi' : i < n) (hU : Qv8 g b n U) {s' : St} (hs : s'.nx ≤ hi b i) (hf : ∀ T, (lo b i ≤ T → s'.nx ≤ T) → g'.sn T = g.sn T) : Qv8 g' b n (U.filter (· ≠ i)) := by
  have hle : (i + 1) * 64 ≤ n * 64 := Nat.mul_le_mul_right _ hi'
  refine ⟨fun T hT => ?_, fun k hk T h1 h2 => ?_⟩
  · rw [hf T (fun _ => ?_)]
    · exact hU.1 T hT
    · unfold hi at hs; omega
  · simp only [List.mem_filter, decide_eq_true_eq] at hk
    obtain ⟨hk1, hk2⟩ := hk
    rw [hf T (fun hlo => ?_)]
    · exact hU.2 k hk1 T h1 h2
    · unfold lo hi at *
      rcases Nat.lt_or_gt_of_ne hk2 with h | h
      · have : (k + 1) * 64 ≤ i * 64 := Nat.mul_le_mul_right _ h
        omega
      · have : (i + 1) * 64 ≤ k * 64 := Nat.mul_le_mul_right _ h
        omega
theorem Qpx {l h : Nat} (hlh : l ≤ h) (hv : Qdz P ty ops o (d.win l h) s') : s'.nx ≤ h := by
  obtain ⟨v, H', n', h1, h2, rfl, _⟩ := Qkh (fun hh => by cases hh) hv
  exact h2 h rfl hlh
def Good (P : Program) (E : Env) (b n : Nat) (U : List Nat) (d : St) : Prop := ∃ g a w, Rel P E g (d.nm (b + n * 64)) a w ∧ Qv8 g b n U
theorem Xew (b i : Nat) : lo b i ≤ hi b i := by unfold lo hi; omega
theorem Xcd (hT : Qeo P ty) {b n : Nat} {U : List Nat} (hg : Good P E b n U d) {i : Nat} (hi' : i < n) (hiU : i ∈ U) (h : Xe5 P ty ops b i d d1) : Good P E b n (U.filter (· ≠ i)) d1 := by
  obtain ⟨g, a, w, hr, hU⟩ := hg
  obtain ⟨o, ho, s', hv, rfl⟩ := h
  have hnx := Qpx (Xew b i) hv
  have hw := Quo (l := lo b i) (h := hi b i) hr (hU.2 i hiU)
  have key := Qgh hT hw (ops := ops) (o := o) (K := (· = s')) hv (Kp := fun a' w' => ∃ g', Rel P E g' s' a' w' ∧ (∀ T, (lo b i ≤ T → s'.nx ≤ T) → g'.sn T = g.sn T)) (Q := fun _ _ _ => False)
    (fun g' s2 a' w' hs hr' hf => by subst hs; exact ⟨g', hr', hf⟩)
  have : ∃ a' w' g', Rel P E g' s' a' w' ∧ (∀ T, (lo b i ≤ T → s'.nx ≤ T) → g'.sn T = g.sn T) := by
    split at key
    · rcases key with k | ⟨_, _, _, k⟩
      · obtain ⟨a', w', g', k1⟩ := Xg5 k
        exact ⟨a', w', g', k1⟩
      · exact k.elim
    · obtain ⟨g', k1⟩ := key
      exact ⟨_, _, g', k1⟩
  obtain ⟨a', w', g', k1, k2⟩ := this
  have hun := Qmv hi' hU hnx k2
  have hrel : Rel P E g' (s'.nm (b + n * 64)) a' w' := Xbj k1 hun.1
  exact ⟨g', a', w', hrel, hun⟩
theorem Xeq (hT : Qeo P ty) {b n : Nat} {K : St → Prop} {j : Nat} {oj : Oper} (hoj : ops[j]? = some oj) (hjn : j < n) : ∀ (pre post U : List Nat) (d : St), Good P E b n U d → j ∈ U → (∀ i ∈ pre, i ∈ U ∧ i < n ∧ i ≠ j) → pre.Nodup →
    (∀ i ∈ pre, ∃ oi, ops[i]? = some oi ∧ oi.apart ops oj = true ∧ Qum oi oj = true) → Qs1 P ty ops b (pre ++ j :: post) d K → ∃ d', Xe5 P ty ops b j d d' ∧ Qs1 P ty ops b (pre ++ post) d' K
  | [], post, U, d, _, _, _, _, _, h => h
  | i :: pre, post, U, d, hg, hjU, hp, hnd, hc, h => by
    obtain ⟨d1, h1, h2⟩ := h
    obtain ⟨iU, hin, hij⟩ := hp i (List.mem_cons_self ..)
    have hg1 := Xcd hT hg hin iU h1
    rw [List.nodup_cons] at hnd
    obtain ⟨d2, h3, h4⟩ := Xeq hT hoj hjn pre post (U.filter (· ≠ i)) d1 hg1 (by simp [hjU, Ne.symm hij]) (fun k hk => by
      obtain ⟨k1, k2, k3⟩ := hp k (List.mem_cons_of_mem _ hk)
      have : k ≠ i := fun hh => hnd.1 (hh ▸ hk)
      exact ⟨by simp [k1, this], k2, k3⟩) hnd.2 (fun k hk => hc k (List.mem_cons_of_mem _ hk)) h2
    obtain ⟨oi, hoi, hap, hcm⟩ := hc i (List.mem_cons_self ..)
    obtain ⟨oi', hoi', h1⟩ := h1
    rw [hoi] at hoi'
    cases hoi'
    obtain ⟨oj', hoj', h3⟩ := h3
    rw [hoj] at hoj'
    cases hoj'
    obtain ⟨g, a, w, hr, hU⟩ := hg
    have hdis : hi b i ≤ lo b j ∨ hi b j ≤ lo b i := by
      unfold lo hi
      rcases Nat.lt_or_gt_of_ne hij with h | h
      · have : (i + 1) * 64 ≤ j * 64 := Nat.mul_le_mul_right _ h
        exact .inl (by omega)
      · have : (j + 1) * 64 ≤ i * 64 := Nat.mul_le_mul_right _ h
        exact .inr (by omega)
    obtain ⟨d', k1, k2⟩ := Qs6 (Xew b i) (Xew b j) hdis hap hcm (fun t T hTt => by
      have hs := Qs9 (hr.tmps t) T hTt
      refine ⟨fun hh => ?_, fun hh => ?_⟩
      · rw [hU.2 i iU T hh.1 hh.2] at hs; cases hs
      · rw [hU.2 j hjU T hh.1 hh.2] at hs; cases hs) (fun t T hTt => by
      have hs := Qn3 hr.heap _ T hTt
      refine ⟨fun hh => ?_, fun hh => ?_⟩
      · rw [hU.2 i iU T hh.1 hh.2] at hs; cases hs
      · rw [hU.2 j hjU T hh.1 hh.2] at hs; cases hs) h1 h3
    exact ⟨d', ⟨oj, hoj, k1⟩, d2, ⟨oi, hoi, k2⟩, h4⟩
def unl (n : Nat) (listed : Array Bool) : List Nat := (List.range n).filter fun i => !listed.getD i true
def Xei (ops : Array Oper) (listed : Array Bool) : Prop := ∀ j o, ops[j]? = some o → listed.getD j true = true → ∀ e ∈ o.after, Region.binds .any e = true → listed.getD e.on false = true
theorem Qse {listed : Array Bool} (hc : Xei ops listed) (i : Nat) : ∀ j ∈ descs ops i, (listed.getD j true = true → listed.getD i false = true) ∧
    (∀ o, ops[j]? = some o → (∀ e ∈ o.after, Region.binds .any e = true → listed.getD e.on false = true) → listed.getD i false = true) := by
  have key : ∀ (l : List Nat) (acc : List Nat), (∀ j ∈ acc, (listed.getD j true = true → listed.getD i false = true) ∧
      (∀ o, ops[j]? = some o → (∀ e ∈ o.after, Region.binds .any e = true → listed.getD e.on false = true) → listed.getD i false = true)) →
      ∀ j ∈ l.foldl (fun acc j => match ops[j]? with
        | some o => if o.after.any (fun e => Region.binds .any e && (e.on == i || acc.contains e.on)) then j :: acc else acc
        | none => acc) acc, (listed.getD j true = true → listed.getD i false = true) ∧
      (∀ o, ops[j]? = some o → (∀ e ∈ o.after, Region.binds .any e = true → listed.getD e.on false = true) → listed.getD i false = true) := by
    intro l
    induction l with
    | nil => intro acc h; exact h
    | cons k l ih =>
      intro acc h
      simp only [List.foldl_cons]
      refine ih _ ?_
      cases ho : ops[k]? with
      | none => simp only [ho]; exact h
      | some o =>
        simp only [ho]
        split
        · rename_i hany
          have kk : ∀ o', ops[k]? = some o' → (∀ e ∈ o'.after, Region.binds .any e = true → listed.getD e.on false = true) → listed.getD i false = true := by
            intro o' ho' hall
            rw [ho] at ho'
            cases ho'
            rw [Array.any_eq_true] at hany
            obtain ⟨x, hx, he⟩ := hany
            simp only [Bool.and_eq_true, Bool.or_eq_true, beq_iff_eq, List.contains_eq_mem, decide_eq_true_eq] at he
            have hmem : o.after[x] ∈ o.after := Array.getElem_mem hx
            have hl := hall _ hmem he.1
            rcases he.2 with e1 | e1
            · rwa [e1] at hl
            · refine (h _ e1).1 ?_
              rcases Nat.lt_or_ge (o.after[x]).on listed.size with h' | h'
              · simp only [Array.getD_eq_getD_getElem?, Array.getElem?_eq_getElem h', Option.getD_some] at hl ⊢; exact hl
              · simp [Array.getD_eq_getD_getElem?, Array.getElem?_eq_none h'] at hl
          intro j hj
          rcases List.mem_cons.1 hj with rfl | hj
          · exact ⟨fun hl => kk o ho (hc _ o ho hl), kk⟩
          · exact h j hj
        · exact h
  exact key _ [] (fun j hj => by simp at hj)
theorem Qpr {n : Nat} {listed : Array Bool} (hn : listed.size = n) {j : Nat} (hj : j < n) : unl n (listed.setIfInBounds j true) = (unl n listed).filter (· ≠ j) := by
  unfold unl
  rw [List.filter_filter]
  refine List.filter_congr fun i hi => ?_
  by_cases c : i = j
  · subst c
    have : i < listed.size := by omega
    simp [this]
  · have : (listed.setIfInBounds j true).getD i true = listed.getD i true := getD_set_ne true (Ne.symm c)
    rw [this]
    simp [c]
theorem anyD (hT : Qeo P ty) {b n : Nat} {Q : Exit → St → Prop} (hn : ops.size = n)
    (hok : ∀ j, j < n → ∃ oj, ops[j]? = some oj ∧ (∀ e ∈ oj.after, Region.binds .any e = true → e.on < j) ∧ ∀ i, i < j → j ∈ descs ops i ∨ ∃ oi, ops[i]? = some oi ∧ oi.apart ops oj = true ∧ Qum oi oj = true) :
    ∀ (fuel : Nat) (listed : Array Bool) (g : Gh) (d : St) (a : Act) (w : World), Rel P E g (d.nm (b + n * 64)) a w → Qv8 g b n (unl n listed) → listed.size = n → Xei ops listed → (unl n listed).length ≤ fuel →
      Qs1 P ty ops b (unl n listed) d (fun d => Q .normal (d.nm (b + n * 64))) → wpAny P .any ops (Xgn P E Q) fuel listed a w := by
  have hready : ∀ listed : Array Bool, listed.size = n → Region.ready .any ops listed = [] → unl n listed = [] := by
    intro listed hsz hr
    cases hu : unl n listed with
    | nil => rfl
    | cons i L =>
      exfalso
      have hi : i ∈ unl n listed := by rw [hu]; exact List.mem_cons_self ..
      have hi' := hi
      simp only [unl, List.mem_filter, List.mem_range, Bool.not_eq_true'] at hi'
      obtain ⟨oi, hoi, haf, _⟩ := hok i hi'.1
      have hpw : (unl n listed).Pairwise (· < ·) := List.Pairwise.filter _ (List.pairwise_lt_range)
      have : i ∈ Region.ready .any ops listed := by
        rw [mem_ready]
        refine ⟨hi'.2, oi, hoi, fun e he hb => ?_⟩
        have hlt := haf e he hb
        have hlt2 : e.on < listed.size := by omega
        cases hl : listed.getD e.on true with
        | true => simp only [Array.getD_eq_getD_getElem?, Array.getElem?_eq_getElem hlt2, Option.getD_some] at hl ⊢; exact hl
        | false =>
          have hmem : e.on ∈ unl n listed := by simp only [unl, List.mem_filter, List.mem_range, Bool.not_eq_true']; exact ⟨by omega, hl⟩
          rw [hu] at hmem hpw
          rw [List.pairwise_cons] at hpw
          rcases List.mem_cons.1 hmem with h | h
          · omega
          · have := hpw.1 _ h
            omega
      rw [hr] at this
      cases this
  intro fuel
  induction fuel with
  | zero =>
    intro listed g d a w hr hU hsz hcl hlen hch
    have hnil : unl n listed = [] := List.length_eq_zero_iff.1 (Nat.le_zero.1 hlen)
    rw [hnil] at hch
    refine ⟨?_, g, _, hr, hch⟩
    cases hrd : Region.ready .any ops listed with
    | nil => rfl
    | cons j L =>
      have : j ∈ Region.ready .any ops listed := by rw [hrd]; exact List.mem_cons_self ..
      obtain ⟨h0, o, ho, _⟩ := mem_ready.1 this
      have hlt : j < n := by rw [← hn]; exact (Array.getElem?_eq_some_iff.1 ho).1
      have : j ∈ unl n listed := by simp only [unl, List.mem_filter, List.mem_range, Bool.not_eq_true']; exact ⟨hlt, h0⟩
      rw [hnil] at this
      cases this
  | succ fuel ih =>
    intro listed g d a w hr hU hsz hcl hlen hch
    refine ⟨fun h0 => ?_, fun j hj => ?_⟩
    · rw [hready listed hsz h0] at hch
      exact ⟨g, _, hr, hch⟩
    · obtain ⟨h0, oj, hoj, hall⟩ := mem_ready.1 hj
      have hlt : j < n := by rw [← hn]; exact (Array.getElem?_eq_some_iff.1 hoj).1
      have hjU : j ∈ unl n listed := by simp only [unl, List.mem_filter, List.mem_range, Bool.not_eq_true']; exact ⟨hlt, h0⟩
      obtain ⟨pre, post, hsplit⟩ := List.append_of_mem hjU
      have hpw : (unl n listed).Pairwise (· < ·) := List.Pairwise.filter _ (List.pairwise_lt_range)
      have hpw' := hpw
      rw [hsplit, List.pairwise_append] at hpw'
      have hmemU : ∀ i ∈ pre, i ∈ unl n listed := fun i hi => by rw [hsplit]; exact List.mem_append_left _ hi
      have hpre : ∀ i ∈ pre, i < j := fun i hi => hpw'.2.2 i hi j (List.mem_cons_self ..)
      have hpost : ∀ i ∈ post, j < i := fun i hi => by
        have := hpw'.2.1
        rw [List.pairwise_cons] at this
        exact this.1 i hi
      have hnodup : pre.Nodup := hpw'.1.imp (fun h => Nat.ne_of_lt h)
      obtain ⟨oj', hoj', haf, hpair⟩ := hok j hlt
      rw [hoj] at hoj'
      cases hoj'
      have hcomm : ∀ i ∈ pre, ∃ oi, ops[i]? = some oi ∧ oi.apart ops oj = true ∧ Qum oi oj = true := by
        intro i hi
        rcases hpair i (hpre i hi) with hd | hd
        · have hl := (Qse hcl i j hd).2 oj hoj hall
          have hu := hmemU i hi
          simp only [unl, List.mem_filter, List.mem_range, Bool.not_eq_true'] at hu
          have hlt2 : i < listed.size := by omega
          have h3 := hu.2
          simp only [Array.getD_eq_getD_getElem?, Array.getElem?_eq_getElem hlt2, Option.getD_some] at hl h3
          rw [hl] at h3
          cases h3
        · exact hd
      rw [hsplit] at hch
      obtain ⟨d', h1, h2⟩ := Xeq hT hoj hlt pre post (unl n listed) d ⟨g, a, w, hr, hU⟩ hjU (fun i hi => ⟨hmemU i hi, Nat.lt_trans (hpre i hi) hlt, Nat.ne_of_lt (hpre i hi)⟩) hnodup hcomm hch
      obtain ⟨oj', hoj', s', hv, rfl⟩ := h1
      rw [hoj] at hoj'
      cases hoj'
      have hfil : unl n (listed.setIfInBounds j true) = pre ++ post := by
        rw [Qpr hsz hlt, hsplit, List.filter_append, List.filter_cons]
        have e1 : pre.filter (· ≠ j) = pre := List.filter_eq_self.2 fun i hi => by have := hpre i hi; simp; omega
        have e2 : post.filter (· ≠ j) = post := List.filter_eq_self.2 fun i hi => by have := hpost i hi; simp; omega
        rw [e1, e2]
        simp
      have hnx := Qpx (Xew b j) hv
      have hw := Quo (l := lo b j) (h := hi b j) hr (hU.2 j hjU)
      unfold wpOp
      simp only [hoj]
      refine Qgh hT hw (ops := ops) (o := oj) (K := (· = s')) hv fun g' s2 a' w' hs hr' hf => ?_
      subst hs
      have hun := Qmv hlt hU hnx hf
      have hrel : Rel P E g' (s2.nm (b + n * 64)) a' w' := Xbj hr' hun.1
      refine ih _ g' (s2.nm 0) a' w' hrel (by rw [Qpr hsz hlt]; exact hun) (by simpa using hsz) ?_ ?_ (by rw [hfil]; exact h2)
      · intro k o ho hk e he hb
        refine getD_set_true ?_
        by_cases c : k = j
        · subst c
          rw [hoj] at ho
          cases ho
          exact hall e he hb
        · rw [getD_set_ne true (Ne.symm c)] at hk
          exact hcl k o ho hk e he hb
      · have : (unl n listed).length = (pre ++ post).length + 1 := by rw [hsplit]; simp; omega
        rw [hfil]
        omega
theorem Qmb {b : Nat} {K : St → Prop} : ∀ (l : List Oper) (k : Nat) (s : St), (∀ j, l[j]? = ops[k + j]?) → Qbn P ty ops l k b s K → Qs1 P ty ops b (List.range' k l.length) (s.nm 0) (fun d => K (d.nm (b + (k + l.length) * 64)))
  | [], k, s, hl, h => h
  | o :: rest, k, s, hl, h => by
    obtain ⟨s', h1, h2⟩ := Xa8.1 h
    have h0 : ops[k]? = some o := by simpa using (hl 0).symm
    have ih := Qmb rest (k + 1) s' (fun j => by have := hl (j + 1); simpa [Nat.add_assoc, Nat.add_comm 1 j] using this) h2
    simp only [List.length_cons, List.range'_succ]
    refine ⟨s'.nm 0, ⟨o, h0, s', h1, rfl⟩, ?_⟩
    rw [show k + (rest.length + 1) = k + 1 + rest.length by omega]
    exact ih
theorem Xdo (hT : Qeo P ty) (hm : P.follows .mixedOrders = true) {id : Nat} {Q : Exit → St → Prop} (hok : Qv3 ops = true) (hlim : s.lim = none) (h : Qbn P ty ops ops.toList 0 s.nx s (Q .normal)) : VWP P E (.region id ops true) Q s := by
  intro g a w hr
  refine wp_region_any hm ?_
  have hch := Qmb ops.toList 0 s (by simp) h
  simp only [Array.length_toList, Nat.zero_add] at hch
  have hall : unl ops.size (Array.replicate ops.size false) = List.range' 0 ops.size := by
    rw [← List.range_eq_range']
    refine List.filter_eq_self.2 fun i hi => ?_
    have : i < ops.size := List.mem_range.1 hi
    simp [this]
  have hrel : Rel P E g ((s.nm 0).nm (s.nx + ops.size * 64)) a { w with drawn := w.drawn + 1 } :=
    ⟨hr.size, hr.defers, hr.heap.drew, fun T hT => hr.fresh T ⟨Nat.le_trans (Nat.le_add_right _ _) hT.1, by rw [hlim]; trivial⟩, hr.tmps, hr.pin⟩
  have hun : ∀ T, s.nx ≤ T → g.sn T = false := fun T hT => hr.fresh T ⟨hT, by rw [hlim]; trivial⟩
  refine anyD hT (b := s.nx) rfl (fun j hj => ?_) _ _ g (s.nm 0) a _ hrel ⟨fun T hT => hun T (by omega), fun i _ T h1 _ => hun T (by unfold lo at h1; omega)⟩ (by simp) (fun j o ho hl => ?_) (by rw [hall]; simp) (by rw [hall]; exact hch)
  · simp only [Qv3, List.all_eq_true, List.mem_range] at hok
    have := hok j hj
    split at this
    · cases this
    · rename_i oj hoj
      simp only [Bool.and_eq_true, Array.all_eq_true_iff_forall_mem, List.all_eq_true, List.mem_range, Bool.or_eq_true, Bool.not_eq_true', decide_eq_true_eq, List.contains_eq_mem] at this
      refine ⟨oj, hoj, fun e he hb => (this.1 e he).resolve_left (by simp [hb]), fun i hi => ?_⟩
      rcases this.2 i hi with h1 | h1
      · exact .inl h1
      · refine .inr ?_
        split at h1
        · rename_i oi hoi
          simp only [Bool.and_eq_true] at h1
          exact ⟨oi, hoi, h1.1, h1.2⟩
        · cases h1
  · have hlt : j < ops.size := (Array.getElem?_eq_some_iff.1 ho).1
    simp [hlt] at hl
end
def Qua : Value → VV → Bool
  | .int k n, .int k' n' => k == k' && n == n'
  | .bool b, .bool b' => b == b'
  | .string s, .str s' => s.size == 0 && s'.size == 0
  | .slice none 0 0, .nl _ => true
  | _, _ => false
def Qlb : List Value → List VV → Bool
  | [], [] => true
  | v :: vs, x :: xs => Qua v x && Qlb vs xs
  | _, _ => false
def chkD (P : Program) (t : TypeId) : TyD → Bool
  | .sl e => match P.underlying t with | some (.slice e') => e' == e | _ => false
  | .st fs => match P.underlying t with | some (.struct F) => F.toList.map (fun f => (f.offset, f.type)) == fs | _ => false
  | .ar n e => match P.underlying t with | some (.array n' e') => n' == n && e' == e | _ => false
  | .bo => match P.underlying t with | some .bool => true | _ => false
  | .it k => match P.underlying t with | some (.int k') => k' == k | _ => false
  | .ss => match P.underlying t with | some .string => true | _ => false
  | .sc => match P.underlying t with | some (.struct _) => false | some (.array _ _) => false | some _ => true | none => false
def chkZ (z : Option Value) (l : List VV) : Bool :=
  match l with
  | [] => true
  | l => match z with | some v => Qlb v.cells.toList l | none => false
def chkT (P : Program) (t : TypeId) (d : TyE) : Bool :=
  chkD P t d.d && (match P.info? t with | some i => i.size == d.size && i.bytes == d.bytes && chkZ i.zero d.zero | none => false)
theorem Qq8 {v : Value} {x : VV} (h : Qua v x = true) : some v = x.const? := by
  unfold Qua at h
  split at h
  · simp only [Bool.and_eq_true, beq_iff_eq] at h
    obtain ⟨rfl, rfl⟩ := h
    rfl
  · simp only [beq_iff_eq] at h
    subst h
    rfl
  · rename_i s s'
    simp only [Bool.and_eq_true, beq_iff_eq] at h
    have : s = s' := by
      cases s with
      | mk a => cases s' with
        | mk b =>
          have h1 : a.size = 0 := h.1
          have h2 : b.size = 0 := h.2
          rw [Array.eq_empty_of_size_eq_zero h1, Array.eq_empty_of_size_eq_zero h2]
    subst this
    rfl
  · rfl
  · cases h
theorem Qjn : ∀ {vs : List Value} {xs : List VV}, Qlb vs xs = true → vs.map some = xs.map VV.const?
  | [], [], _ => rfl
  | [], _ :: _, h => by cases h
  | _ :: _, [], h => by cases h
  | v :: vs, x :: xs, h => by
    simp only [Qlb, Bool.and_eq_true] at h
    simp only [List.map_cons, Qq8 h.1, Qjn h.2]
theorem Xcc {P : Program} {t : TypeId} {d : TyE} (h : chkT P t d = true) : TyOK1 P t d := by
  simp only [chkT, Bool.and_eq_true] at h
  obtain ⟨h1, h2⟩ := h
  refine ⟨?_, ?_⟩
  · generalize d.d = dd at h1
    unfold chkD at h1
    unfold tyD
    split at h1
    · split at h1
      · rename_i hu; rw [hu]; simp only [beq_iff_eq] at h1; simp [h1]
      · cases h1
    · split at h1
      · rename_i F hu; simp only [beq_iff_eq] at h1; exact ⟨F, hu, h1⟩
      · cases h1
    · split at h1
      · rename_i hu; rw [hu]; simp only [Bool.and_eq_true, beq_iff_eq] at h1; simp [h1]
      · cases h1
    · split at h1
      · rename_i hu; exact hu
      · cases h1
    · split at h1
      · rename_i hu; rw [hu]; simp only [beq_iff_eq] at h1; simp [h1]
      · cases h1
    · split at h1
      · rename_i hu; exact hu
      · cases h1
    · split at h1
      · cases h1
      · cases h1
      · rename_i x hs ha hu
        refine ⟨x, hu, ?_⟩
        cases x <;> first | exact (hs _ rfl).elim | exact (ha _ _ rfl).elim | trivial
      · cases h1
  · split at h2
    · rename_i i hi
      simp only [Bool.and_eq_true, beq_iff_eq] at h2
      obtain ⟨⟨h3, h4⟩, h5⟩ := h2
      refine ⟨i, hi, h3, h4, ?_⟩
      unfold chkZ at h5
      split at h5
      · rename_i hz; exact .inl hz
      · split at h5
        · rename_i v hv
          exact .inr ⟨v, hv, Qjn h5⟩
        · cases h5
    · cases h2
theorem Xhj (tm : Nat → VV) (H : Qbi) (nx N : Nat) (lim : Option Nat) (t : Nat) : ev ⟨tm, H, nx, N, lim⟩ (.tmp t) = tm t := rfl
theorem Xed (tm : Nat → VV) (H : Qbi) (nx N : Nat) (lim : Option Nat) (v : Value) : ev ⟨tm, H, nx, N, lim⟩ (.const v) = Qip v := rfl
theorem Xgm (tm : Nat → VV) (H : Qbi) (nx N : Nat) (lim : Option Nat) (f : FuncId) : ev ⟨tm, H, nx, N, lim⟩ (.func f) = .clo f [] := rfl
theorem Xfl (t : Nat) (v : VV) (f : Nat → VV) (x : Nat) : Qbo t v f x = (match Nat.beq x t with | true => v | false => f x) := by
  unfold Qbo
  by_cases h : x = t
  · subst h; simp
  · have : Nat.beq x t = false := by
      cases hb : Nat.beq x t with
      | false => rfl
      | true => exact absurd (Nat.eq_of_beq_eq_true hb) h
    rw [if_neg h, this]
theorem Xe8 (t : Nat) (v : Ent) (f : Qbi) (x : Nat) : Qbd t v f x = if x = t then v else f x := rfl
def tmL : List (Nat × VV) → Nat → VV
  | [], _ => .any
  | (t, v) :: l, x => if x = t then v else tmL l x
def hpL : List (Nat × Ent) → Qbi
  | [], _ => .dead
  | (t, v) :: l, x => if x = t then v else hpL l x
section
variable {P : Program} {E : Env} {ty : Ty} {ops : Array Oper} {rest : List Oper} {K : St → Prop} {tm : Nat → VV} {H : Qbi} {nx N : Nat} {lim : Option Nat} {d t : Nat} {p : String} {af : Array Edge} {x y : Operand} {s : St}
theorem Xd3 : Qb5 P ty ops [] s K = K s := rfl
def Qcq (P : Program) (ty : Ty) (ops : Array Oper) (rest : List Oper) (K : St → Prop) (s : St) (d : Nat) (r : Option VV) : Prop :=
  match r with
  | some v => d < s.N ∧ Qb5 P ty ops rest (s.put d v) K
  | none => False
theorem Qc7 {op : Op} (hf : Qgt s ⟨some d, op, t, p, af, none⟩ = none) (hv : Qhu ty s ⟨some d, op, t, p, af, none⟩ = (Qiv ty s ⟨some d, op, t, p, af, none⟩).bind (s.putd (some d))) :
    Qb5 P ty ops (⟨some d, op, t, p, af, none⟩ :: rest) s K = Qcq P ty ops rest K s d (Qiv ty s ⟨some d, op, t, p, af, none⟩) := by
  simp only [Qb5, vop, Qi8, hf, hv]
  cases Qiv ty s ⟨some d, op, t, p, af, none⟩ with
  | none => simp [Qcq]
  | some v =>
    simp only [Option.bind_some, St.putd, Qcq]
    by_cases h : d < s.N <;> simp [h]
theorem Xch (v : VV) : Qcq P ty ops rest K ⟨tm, H, nx, N, lim⟩ d (some v) = (d < N ∧ Qb5 P ty ops rest ⟨Qbo d v tm, H, nx, N, lim⟩ K) := rfl
theorem Xcj : Qb5 P ty ops (⟨some d, .move x, t, p, af, none⟩ :: rest) s K = Qcq P ty ops rest K s d (some (Qdv ty t (ev s x))) := Qc7 rfl rfl
theorem Qus : Qb5 P ty ops (⟨some d, .assign x, t, p, af, none⟩ :: rest) s K = Qcq P ty ops rest K s d (some (Qdv ty t (ev s x))) := Qc7 rfl rfl
def Xev (c x y : VV) : Option VV := match c with
  | .bool b => some (Xb5 b x y)
  | _ => none
theorem Xbb {c : Operand} : Qb5 P ty ops (⟨some d, .pick c x y, t, p, af, none⟩ :: rest) s K = Qcq P ty ops rest K s d (Xev (ev s c) (ev s x) (ev s y)) := by rw [Qc7 rfl rfl]; rfl
theorem Qxg {op : BinOp} {t1 t2 : Nat} : Qb5 P ty ops (⟨some d, .binOp op t1 x y t2, t, p, af, none⟩ :: rest) s K = Qcq P ty ops rest K s d (Xg7 op (Xgq ty t1) (ev s x) (ev s y)) := Qc7 rfl rfl
theorem Xb3 {op : UnOp} {t1 : Nat} : Qb5 P ty ops (⟨some d, .unOp op t1 x, t, p, af, none⟩ :: rest) s K = Qcq P ty ops rest K s d (vUn op (ev s x)) := Qc7 rfl rfl
def Xhq (a b : Option IntKind) (x : VV) : Option VV := match a, b, x with
  | some _, some k, .int _ n => some (.int k (k.wrap n))
  | _, _, _ => none
theorem Qs0 {t1 t2 : Nat} : Qb5 P ty ops (⟨some d, .convert t1 t2 x, t, p, af, none⟩ :: rest) s K = Qcq P ty ops rest K s d (Xhq (Qm5 ty t1) (Qm5 ty t2) (ev s x)) := by rw [Qc7 rfl rfl]; rfl
theorem Xcs {t1 : Nat} : Qb5 P ty ops (⟨some d, .load t1 x, t, p, af, none⟩ :: rest) s K = Qcq P ty ops rest K s d (Qnx ty s t1 (ev s x)) := Qc7 rfl rfl
theorem Qnj {t1 f : Nat} : Qb5 P ty ops (⟨some d, .fieldAddr t1 x f, t, p, af, none⟩ :: rest) s K = Qcq P ty ops rest K s d (Qeh ty s t1 (ev s x) f) := Qc7 rfl rfl
theorem Qxh {t1 f : Nat} : Qb5 P ty ops (⟨some d, .field t1 x f, t, p, af, none⟩ :: rest) s K = Qcq P ty ops rest K s d (Qq9 ty t1 (ev s x) f) := Qc7 rfl rfl
theorem Qnm {t1 : Nat} : Qb5 P ty ops (⟨some d, .indexAddr t1 x y, t, p, af, none⟩ :: rest) s K = Qcq P ty ops rest K s d (Qel ty s t1 (ev s x) (ev s y)) := Qc7 rfl rfl
theorem Qzf {t1 : Nat} : Qb5 P ty ops (⟨some d, .index t1 x y, t, p, af, none⟩ :: rest) s K = Qcq P ty ops rest K s d (Qso ty t1 (ev s x) (ev s y)) := Qc7 rfl rfl
theorem Qsa {i : Nat} : Qb5 P ty ops (⟨some d, .extract x i, t, p, af, none⟩ :: rest) s K = Qcq P ty ops rest K s d (Qj0 (ev s x) i) := Qc7 rfl rfl
theorem Qyv {t1 : Nat} {l h : Option Operand} : Qb5 P ty ops (⟨some d, .slice t1 x l h none, t, p, af, none⟩ :: rest) s K = Qcq P ty ops rest K s d (Qkr ty s t1 (ev s x) (l.map (ev s)) (h.map (ev s))) := Qc7 rfl rfl
theorem Xde {b : Builtin} (hb : b ≠ .append) {xs : Array Operand} {ts : Array TypeId} : Qb5 P ty ops (⟨some d, .call ⟨.builtin b, xs, ts⟩, t, p, af, none⟩ :: rest) s K = Qcq P ty ops rest K s d (Qjd ty s b (xs.toList.map (ev s)) ts.toList) :=
  Qc7 rfl (by cases b <;> first | rfl | exact absurd rfl hb)
def Qc6 (P : Program) (ty : Ty) (ops : Array Oper) (rest : List Oper) (K : St → Prop) (r : Option St) : Prop :=
  match r with
  | some s => Qb5 P ty ops rest s K
  | none => False
theorem Qz7 : Qc6 P ty ops rest K (some s) = Qb5 P ty ops rest s K := rfl
theorem Qgn {o : Oper} (hg : o.guard = none) (hf : Qgt s o = none) : Qb5 P ty ops (o :: rest) s K = Qc6 P ty ops rest K (Qhu ty s o) := by
  simp only [Qb5, vop, Qi8, hg, hf]
  cases Qhu ty s o <;> simp [Qc6]
def Xej (s : St) (t : Option TyE) (d : Option Nat) : Option St := match t with
  | some e => Qzt s e.zero d
  | none => none
theorem Qxm {t1 : Nat} {dd : Option Nat} : Qb5 P ty ops (⟨dd, .alloc t1, t, p, af, none⟩ :: rest) s K = Qc6 P ty ops rest K (Xej s (ty t1) dd) := by rw [Qgn rfl rfl]; rfl
def Xgy (s : St) (c : Option (List VV)) (d : Option Nat) : Option St := match c with
  | some vs => Qzt s vs d
  | none => none
theorem Xeh {t1 : Nat} {dd : Option Nat} : Qb5 P ty ops (⟨dd, .box t1 x, t, p, af, none⟩ :: rest) s K = Qc6 P ty ops rest K (Xgy s (ev s x).cells dd) := by rw [Qgn rfl rfl]; rfl
theorem Qw8 {t1 : Nat} : Qb5 P ty ops (⟨none, .store t1 x y, t, p, af, none⟩ :: rest) s K = Qc6 P ty ops rest K (Qjq ty s t1 (ev s x) (Qdv ty t1 (ev s y))) := by rw [Qgn rfl rfl]; rfl
theorem Qyb {t1 : Nat} {ps : Array (Nat × Operand)} {dd : Option Nat} : Qb5 P ty ops (⟨dd, .build t1 ps, t, p, af, none⟩ :: rest) s K = Qc6 P ty ops rest K ((Qif ty t1 (Qcn ty s t1 ps)).bind (s.putd dd)) := by rw [Qgn rfl rfl]; rfl
theorem Ql6 {t1 n : Nat} {ps : Array (Nat × Operand)} {dd : Option Nat} : Qb5 P ty ops (⟨dd, .buildSlice t1 n ps, t, p, af, none⟩ :: rest) s K = Qc6 P ty ops rest K (Qd9 ty s t1 n (Qcn ty s t1 ps) dd) := by rw [Qgn rfl rfl]; rfl
theorem Qnt {t1 : Nat} {dd : Option Nat} : Qb5 P ty ops (⟨dd, .makeSlice t1 x y, t, p, af, none⟩ :: rest) s K = Qc6 P ty ops rest K (Qva ty s t1 (ev s x) (ev s y) dd) := by rw [Qgn rfl rfl]; rfl
theorem Qvc {t1 : Nat} {dd : Option Nat} : Qb5 P ty ops (⟨dd, .call ⟨.builtin .append, #[x, y], #[t1, t1]⟩, t, p, af, none⟩ :: rest) s K = Qc6 P ty ops rest K (Qgw ty s t1 (Qdv ty t1 (ev s x)) (ev s y) dd) := by
  rw [Qgn rfl rfl]
  simp [Qhu]
def Qbj (P : Program) (f : FuncId) (args : List VV) (s : St) (dst : Option Nat) (K : St → Prop) : Prop :=
  ((∀ x ∈ args, Qgm s.H x) ∧ ∃ v l, SatP P f (args.map (Qnd s.H)) v l ∧ s.room l.length = true ∧ ∃ s', (s.imp l).putd dst (shV s.nx v) = some s' ∧ K s') ∨ Xae P f args s dst K
def Qbs (P : Program) (ty : Ty) (ops : Array Oper) (rest : List Oper) (K : St → Prop) (s : St) : Prop := Qb5 P ty ops rest s K
theorem Xd5 : Qbs P ty ops rest K ⟨tm, H, nx, N, lim⟩ = Qb5 P ty ops rest ⟨tm, H, nx, N, lim⟩ K := rfl
theorem Xct {f : FuncId} {xs : Array Operand} {ts : Array TypeId} {dd : Option Nat} : Qb5 P ty ops (⟨dd, .call ⟨.value (.func f), xs, ts⟩, t, p, af, none⟩ :: rest) s K =
    Qbj P f (Qcx ty s xs.toList ts.toList) s dd (Qbs P ty ops rest K) := by
  simp only [Qb5, vop, Qi8, Qgt, List.append_nil, Qbj]
  rfl
def Xca (P : Program) (v : VV) (args : List VV) (s : St) (dst : Option Nat) (K : St → Prop) : Prop :=
  match v with
  | .clo f caps => caps.all Qnr = true ∧ Qbj P f (args ++ caps) s dst K
  | _ => False
theorem Xb2 {f : FuncId} {caps args : List VV} {dst : Option Nat} : Xca P (.clo f caps) args s dst K = (caps.all Qnr = true ∧ Qbj P f (args ++ caps) s dst K) := rfl
theorem Qwv {u : Nat} {xs : Array Operand} {ts : Array TypeId} {dd : Option Nat} : Qb5 P ty ops (⟨dd, .call ⟨.value (.tmp u), xs, ts⟩, t, p, af, none⟩ :: rest) ⟨tm, H, nx, N, lim⟩ K =
    Xca P (tm u) (Qcx ty ⟨tm, H, nx, N, lim⟩ xs.toList ts.toList) ⟨tm, H, nx, N, lim⟩ dd (Qbs P ty ops rest K) := by
  show _ = Xca P (tm u) (Qcx ty ⟨tm, H, nx, N, lim⟩ xs.toList ts.toList) ⟨tm, H, nx, N, lim⟩ dd (fun s' => Qb5 P ty ops rest s' K)
  simp only [Qb5, vop, Qi8, Qgt]
  cases hu : tm u with
  | clo f caps =>
    simp only [Xca]
    by_cases hc : caps.all Qnr = true
    · simp only [hc, if_true, true_and, Qbj]
    · simp only [hc, if_false, false_and]
      simp [Qhu, Qiv]
  | _ => simp [Xca, Qhu, Qiv]
theorem Qps {f : FuncId} {fi ca : Array Operand} : Qb5 P ty ops (⟨some d, .makeFunc (.func f) fi ca, t, p, af, none⟩ :: rest) s K = Qcq P ty ops rest K s d (Qjh f fi.size (ca.toList.map (ev s))) := Qc7 rfl rfl
theorem Xdf {f : FuncId} {args : List VV} {dd : Nat} {v : VV} {l : List (TypeId × List (List PT))} (hok : ∀ x ∈ args, Qgm H x) {args' : List VV} (ha : args.map (Qnd H) = args') (hS : SatP P f args' v l) (hr : (⟨tm, H, nx, N, lim⟩ : St).room l.length = true)
    (hd : dd < N) (hK : K ⟨Qbo dd (shV nx v) tm, Qs3 nx l H, nx + l.length, N, lim⟩) : Qbj P f args ⟨tm, H, nx, N, lim⟩ (some dd) K :=
  .inl ⟨hok, v, l, by rw [ha]; exact hS, hr, _, if_pos hd, hK⟩
theorem Xc3 {f : FuncId} {args : List VV} {dd : Nat} {v : VV} {O : List Ent} (σ : List Nat) (hn : σ.Nodup) (h1 : ∀ T ∈ σ, Qew σ H (H T)) (h2 : ∀ x ∈ args, Qhl σ H x) {args' : List VV} (ha : args.map (Qpj σ H) = args') {I : List Ent} (hI : (σ.map fun T => Qeq σ H (H T)) = I)
    (hS : SatO P f args' I v O) (hd : dd < N) (hK : K ⟨Qbo dd (bkV σ nx v) tm, Qqx (bkE σ nx) σ nx O H, nx + (O.length - σ.length), N, none⟩) : Qbj P f args ⟨tm, H, nx, N, none⟩ (some dd) K :=
  .inr ⟨rfl, σ, v, O, hn, h1, h2, by rw [ha, hI]; exact hS, rfl, _, if_pos hd, hK⟩
def Qa3 (P : Program) (ty : Ty) (ops : Array Oper) (o : Oper) (b : Bool) (rest : List Oper) (s : St) (K : St → Prop) (u : Nat) (v : VV) : Prop :=
  match v with
  | .bool c => if c = b then Qb5 P ty ops (o :: rest) s K else ∃ s', s.putd o.dst (.tup []) = some s' ∧ Qb5 P ty ops rest s' K
  | .tup [] => ∃ s', s.putd o.dst (.tup []) = some s' ∧ Qb5 P ty ops rest s' K
  | _ => False
def Qbt (P : Program) (ty : Ty) (ops : Array Oper) (o : Oper) (b : Bool) (rest : List Oper) (s : St) (K : St → Prop) (t : Option Nat) : Prop :=
  match t with
  | none => ∃ s', s.putd o.dst (.tup []) = some s' ∧ Qb5 P ty ops rest s' K
  | some t => Qa3 P ty ops o b rest s K t (s.tm t)
theorem Qxy {dd : Option Nat} {op : Op} {j : Nat} {b : Bool} : Qb5 P ty ops (⟨dd, op, t, p, af, some (j, b)⟩ :: rest) s K = Qbt P ty ops ⟨dd, op, t, p, af, none⟩ b rest s K ((ops[j]?).bind (·.dst)) := by
  unfold Qbt Qa3
  simp only [Qb5, vop, Qi8]
  cases h : (ops[j]?).bind (·.dst) with
  | none => rfl
  | some u =>
    simp only
    cases hu : s.tm u with
    | bool c => cases c <;> cases b <;> rfl
    | tup l => cases l <;> rfl
    | _ => rfl
theorem Qyz {o : Oper} {b : Bool} {u : Nat} : Qbt P ty ops o b rest ⟨tm, H, nx, N, lim⟩ K (some u) = Qa3 P ty ops o b rest ⟨tm, H, nx, N, lim⟩ K u (tm u) := rfl
theorem Xbz {o : Oper} {u : Nat} : Qa3 P ty ops o true rest s K u (.bool true) = Qb5 P ty ops (o :: rest) s K := rfl
theorem Xcf {o : Oper} {u : Nat} : Qa3 P ty ops o false rest s K u (.bool false) = Qb5 P ty ops (o :: rest) s K := rfl
theorem Qzy {op : Op} {u : Nat} : Qa3 P ty ops ⟨some d, op, t, p, af, none⟩ true rest ⟨tm, H, nx, N, lim⟩ K u (.bool false) = (d < N ∧ Qb5 P ty ops rest ⟨Qbo d (.tup []) tm, H, nx, N, lim⟩ K) := by
  simp only [Qa3, St.putd]
  by_cases h : d < N <;> simp [h, St.put]
theorem Xb1 {op : Op} {u : Nat} : Qa3 P ty ops ⟨some d, op, t, p, af, none⟩ false rest ⟨tm, H, nx, N, lim⟩ K u (.bool true) = (d < N ∧ Qb5 P ty ops rest ⟨Qbo d (.tup []) tm, H, nx, N, lim⟩ K) := by
  simp only [Qa3, St.putd]
  by_cases h : d < N <;> simp [h, St.put]
theorem Xa7 {op : Op} {b : Bool} {u : Nat} : Qa3 P ty ops ⟨some d, op, t, p, af, none⟩ b rest ⟨tm, H, nx, N, lim⟩ K u (.tup []) = (d < N ∧ Qb5 P ty ops rest ⟨Qbo d (.tup []) tm, H, nx, N, lim⟩ K) := by
  simp only [Qa3, St.putd]
  by_cases h : d < N <;> simp [h, St.put]
theorem Qfq {o : Oper} {b c : Bool} {u : Nat} {v : VV} (h0 : tm u = v) (h : v = .bool c) (h1 : c = true → Qa3 P ty ops o b rest ⟨Qbo u (.bool true) tm, H, nx, N, lim⟩ K u (.bool true)) (h2 : c = false → Qa3 P ty ops o b rest ⟨Qbo u (.bool false) tm, H, nx, N, lim⟩ K u (.bool false)) :
    Qa3 P ty ops o b rest ⟨tm, H, nx, N, lim⟩ K u v := by
  subst h
  have he : ∀ v, tm u = v → Qbo u v tm = tm := fun v hv => by
    funext z
    by_cases hz : z = u
    · rw [hz, Xbr, hv]
    · rw [Xa1 _ _ hz]
  cases c with
  | true => have := h1 rfl; rwa [he _ h0] at this
  | false => have := h2 rfl; rwa [he _ h0] at this
theorem Xbe {k b : Nat} : Qbn P ty ops [] k b s K = K (s.nm (b + k * 64)) := rfl
def Qbu (P : Program) (ty : Ty) (ops : Array Oper) (rest : List Oper) (k b : Nat) (K : St → Prop) (s : St) : Prop := Qbn P ty ops rest k b s K
theorem Xee {k b : Nat} : Qbu P ty ops rest k b K ⟨tm, H, nx, N, lim⟩ = Qbn P ty ops rest k b ⟨tm, H, nx, N, lim⟩ K := rfl
theorem Qxo {o : Oper} {k b : Nat} : Qbn P ty ops (o :: rest) k b s K = Qb5 P ty ops [o] (s.win (b + k * 64) (b + (k + 1) * 64)) (Qbu P ty ops rest (k + 1) b K) := rfl
theorem Qh3 (hT : Qeo P ty) (hm : P.follows .mixedOrders = true) {id : Nat} {l : List Oper} {Q : Exit → St → Prop} (hok : Qv3 l.toArray = true) (hlim : s.lim = none) (h : Qbn P ty l.toArray l 0 s.nx s (Q .normal)) : VWP P E (.region id l.toArray true) Q s :=
  Xdo hT hm hok hlim (by simpa using h)
theorem Qjg {a b : Code} {Q : Exit → St → Prop} (h : ∀ K : St → Prop, (∀ s, VWP P E b Q s → K s) → VWP P E a (Qbm K Q) s) : VWP P E (.seq a b) Q s := Xf7 (h _ fun _ h => h)
theorem Qf2 (hT : Qeo P ty) {id : Nat} {l : List Oper} {Q : Exit → St → Prop} (h : Qb5 P ty l.toArray l s (Q .normal)) : VWP P E (.region id l.toArray false) Q s := Qyh hT (by simpa using h)
theorem Qaz {c : Operand} {a b : Code} {Q : Exit → St → Prop} (v : Bool) (hc : ev s c = .bool v) (h1 : v = true → VWP P E a Q s) (h2 : v = false → VWP P E b Q s) : VWP P E (.cond c a b) Q s :=
  Xea hc (by cases v; exact h2 rfl; exact h1 rfl)
theorem Qrl {Q : Exit → St → Prop} : Qbm K Q .normal s = K s := rfl
theorem Qwu {i : Nat} {Q : Exit → St → Prop} : Qbm K Q (.exit i) s = Q (.exit i) s := rfl
theorem Xaz {Q : Exit → St → Prop} : Qbm K Q .ret s = Q .ret s := rfl
theorem Qpg {i : Nat} {Q : Exit → St → Prop} : Qa8 i Q .normal s = Q .normal s := rfl
theorem Qzs {i : Nat} {Q : Exit → St → Prop} : Qa8 i Q .ret s = Q .ret s := rfl
theorem Qvg {i j : Nat} {Q : Exit → St → Prop} : Qa8 i Q (.exit j) s = if j = i then Q .normal s else Q (.exit j) s := rfl
theorem Xdp {rs : List ResultVar} {v : VV} {l : List (TypeId × List (List PT))} : Qdb P ty rs v l .ret s = Qbk P ty rs v l s := rfl
theorem Qve {rs : List ResultVar} {v : VV} {l : List (TypeId × List (List PT))} : Qdb P ty rs v l .normal s = Qbk P ty rs v l s := rfl
theorem Qzx {s : St} {tl : List (Nat × VV)} {hl : List (Nat × Ent)} {n' : Nat} (h1 : ∀ p ∈ tl, s.tm p.1 = p.2) (h2 : ∀ p ∈ hl, s.H p.1 = p.2) (hn : s.nx ≤ n') (hlim : s.lim = none) : Wk s ⟨tmL tl, hpL hl, n', s.N, none⟩ := by
  refine ⟨fun t => ?_, fun T => ?_, hn, rfl, hlim, rfl⟩
  · have : ∀ tl : List (Nat × VV), (∀ p ∈ tl, s.tm p.1 = p.2) → tmL tl t = s.tm t ∨ tmL tl t = .any := by
      intro tl
      induction tl with
      | nil => intro _; exact .inr rfl
      | cons q tl ih =>
        intro h
        obtain ⟨u, v⟩ := q
        simp only [tmL]
        split
        · rename_i hu
          left
          rw [hu]
          exact (h (u, v) (List.mem_cons_self ..)).symm
        · exact ih fun p hp => h p (List.mem_cons_of_mem _ hp)
    exact this tl h1
  · have : ∀ hl : List (Nat × Ent), (∀ p ∈ hl, s.H p.1 = p.2) → hpL hl T = s.H T ∨ hpL hl T = .dead := by
      intro hl
      induction hl with
      | nil => intro _; exact .inr rfl
      | cons q hl ih =>
        intro h
        obtain ⟨u, v⟩ := q
        simp only [hpL]
        split
        · rename_i hu
          left
          rw [hu]
          exact (h (u, v) (List.mem_cons_self ..)).symm
        · exact ih fun p hp => h p (List.mem_cons_of_mem _ hp)
    exact this hl h2
def Qtd : VV → Bool
  | .int _ _ | .bool _ | .str _ | .err _ => true
  | _ => false
theorem Xdc {v : VV} (h : Qtd v = true) : exV H v = some (v, []) := by
  cases v <;> first | rfl | (simp [Qtd] at h)
theorem Qld {u : Nat} {x v : VV} (h : tm u = x) (hs : Qtd v = true) (he : x = v) : Qbk P ty [.tmp u] v [] ⟨tm, H, nx, N, lim⟩ := by
  subst he
  exact ⟨[], _, [x], [], rfl, by simp only [Qcd, h], Xdc hs, List.nodup_nil, rfl, fun y hy => by simp at hy⟩
theorem Qhz {u T n : Nat} {e : TypeId} {rows : List (List PT)} (h : tm u = .rf T n) (hH : H T = .root e rows) (hn : n = rows.length) (hp : Qbb rows) : Qbk P ty [.tmp u] (.rf 0 n) [(e, rows)] ⟨tm, H, nx, N, lim⟩ := by
  subst hn
  refine ⟨[], _, [.rf T rows.length], [(some T, e, rows)], rfl, by simp only [Qcd, h], ?_, by simp, rfl, fun y hy => by simp at hy; subst hy; exact hp⟩
  simp only [wrap, exV, exA, exC, hH, Nat.le_refl, if_true, List.take_length, List.nil_append, List.length_nil]
theorem Qdh {u u' T n : Nat} {e : TypeId} {rows : List (List PT)} {x v : VV} (h : tm u = .rf T n) (h' : tm u' = x) (hs : Qtd x = true) (hH : H T = .root e rows) (he : x = v) (hn : n = rows.length) (hp : Qbb rows) :
    Qbk P ty [.tmp u, .tmp u'] (.tup [.rf 0 n, v]) [(e, rows)] ⟨tm, H, nx, N, lim⟩ := by
  subst hn; subst he
  refine ⟨[], _, [.rf T rows.length, x], [(some T, e, rows)], rfl, by simp only [Qcd, h, h'], ?_, by simp, rfl, fun y hy => by simp at hy; subst hy; exact hp⟩
  simp only [wrap, exV, Qf0, exA, exC, hH, Nat.le_refl, if_true, List.take_length, List.nil_append, List.length_nil]
  cases x <;> first | rfl | (simp [Qtd] at hs)
theorem Qbw {rs : List ResultVar} {vs : List VV} {v : VV} {l : List (TypeId × List (List PT))} {acc : List Out} (h1 : Qcd ty s rs = some vs) (h2 : exV s.H (wrap vs) = some (v, acc)) (h3 : (acc.filterMap (·.1)).Nodup) (h4 : acc.map (·.2) = l)
    (h5 : ∀ x ∈ l, Qbb x.2) : Qbk P ty rs v l s := ⟨[], _, vs, acc, rfl, h1, h2, h3, h4, h5⟩
theorem Xet {rs : List ResultVar} {vs : List VV} {v : VV} {l : List (TypeId × List (List PT))} {acc : List Out} {H' : Qbi} (ms : List (Nat × Nat × Nat)) (h0 : Qb1 ms s.H = some H') (h1 : Qcd ty s rs = some vs) (h2 : exV H' (wrap vs) = some (v, acc)) (h3 : (acc.filterMap (·.1)).Nodup) (h4 : acc.map (·.2) = l)
    (h5 : ∀ x ∈ l, Qbb x.2) : Qbk P ty rs v l s := ⟨ms, H', vs, acc, h0, h1, h2, h3, h4, h5⟩
theorem Xcq {rs : List ResultVar} {m : Nat} {v : VV} {O : List Ent} : Qbr P ty rs m v O .ret s = Qc4 P ty rs m v O s := rfl
theorem Qrr {rs : List ResultVar} {m : Nat} {v : VV} {O : List Ent} : Qbr P ty rs m v O .normal s = Qc4 P ty rs m v O s := rfl
theorem Xg0 (l : List Ent) (T : Nat) : HpE l T = (l[T]?).getD .dead := rfl
def Qbx : Nat → List Ent → Qbi → Prop
  | _, [], _ => True
  | k, x :: xs, H => H k = x ∧ Qbx (k + 1) xs H
theorem Qmq : ∀ {Ks : List Ent} {n : Nat} {H : Qbi}, Qbx n Ks H → ∀ (k : Nat) (x : Ent), Ks[k]? = some x → H (n + k) = x
  | [], n, H, h, k, x, hx => by simp at hx
  | y :: Ks, n, H, h, 0, x, hx => by simp only [List.getElem?_cons_zero, Option.some.injEq] at hx; subst hx; exact h.1
  | y :: Ks, n, H, h, k + 1, x, hx => by
    have := Qmq h.2 k x (by simpa using hx)
    rw [show n + (k + 1) = n + 1 + k by omega]
    exact this
theorem Qbf {rs : List ResultVar} {m : Nat} {vs : List VV} {v : VV} {O K2 : List Ent} {acc acc1 : List Out} {H' : Qbi} (ms : List (Nat × Nat × Nat)) (h0 : Qb1 ms s.H = some H') (Ks : List Ent) (h1 : Ks.length = m) (h2 : Qbx 0 Ks H') (h3 : Qu3 m H' Ks [] = some (K2, acc1))
    (h4 : Qcd ty s rs = some vs) (h5 : Qtw m H' (wrap vs) acc1 = some (v, acc)) (h6 : (acc.filterMap (·.1)).Nodup) (h7 : K2 ++ acc.map Qcz = O) : Qc4 P ty rs m v O s :=
  ⟨ms, H', Ks, K2, acc1, vs, acc, h0, h1, fun k x hx => by have := Qmq h2 k x hx; rwa [Nat.zero_add] at this, h3, h4, h5, h6, h7⟩
theorem Qh6 {u : Nat} {x v : VV} {e : TypeId} {rows rows' : List (List PT)} (h : tm u = x) (hs : Qtd v = true) (hH : H 0 = .root e rows) (he : x = v) (hr : rows = rows') : Qc4 P ty [.tmp u] 1 v [.root e rows'] ⟨tm, H, nx, N, lim⟩ := by
  subst he; subst hr
  refine Qbf [] rfl [.root e rows] rfl ⟨hH, trivial⟩ rfl (vs := [x]) (by simp only [Qcd, h]) (acc := []) ?_ (by simp) rfl
  cases x <;> first | rfl | (simp [Qtd] at hs)
def Qbq {X : Type} (tl : X → List (Nat × VV)) (hl : X → List (Nat × Ent)) (μ : X → Nat) (J : X → Prop) (B N : Nat) (x : X) (s' : St) : Prop :=
  ∃ ms H', Qb1 ms s'.H = some H' ∧ ∃ x', J x' ∧ μ x' < μ x ∧ (∀ p ∈ tl x', s'.tm p.1 = p.2) ∧ (∀ p ∈ hl x', H' p.1 = p.2) ∧ B ≤ s'.nx ∧ s'.N = N ∧ s'.lim = none
theorem Qcj {X : Type} {tl : X → List (Nat × VV)} {hl : X → List (Nat × Ent)} {μ : X → Nat} {J : X → Prop} {B : Nat} {x : X} (x' : X) (h1 : J x') (h2 : μ x' < μ x) (h3 : ∀ p ∈ tl x', tm p.1 = p.2) (h4 : ∀ p ∈ hl x', H p.1 = p.2) (h5 : B ≤ nx) :
    Qbq tl hl μ J B N x ⟨tm, H, nx, N, none⟩ := ⟨[], _, rfl, x', h1, h2, h3, h4, h5, rfl, rfl⟩
theorem Xhv {X : Type} {tl : X → List (Nat × VV)} {hl : X → List (Nat × Ent)} {μ : X → Nat} {J : X → Prop} {B : Nat} {x : X} {H' : Qbi} (ms : List (Nat × Nat × Nat)) (h0 : Qb1 ms H = some H') (x' : X) (h1 : J x') (h2 : μ x' < μ x) (h3 : ∀ p ∈ tl x', tm p.1 = p.2) (h4 : ∀ p ∈ hl x', H' p.1 = p.2) (h5 : B ≤ nx) :
    Qbq tl hl μ J B N x ⟨tm, H, nx, N, none⟩ := ⟨ms, H', h0, x', h1, h2, h3, h4, h5, rfl, rfl⟩
theorem Qa4 {X : Type} (tl : X → List (Nat × VV)) (hl : X → List (Nat × Ent)) (μ : X → Nat) (J : X → Prop) (B : Nat) (x0 : X) {c : Code} {Q : Exit → St → Prop} (hJ : J x0) (h1 : ∀ p ∈ tl x0, tm p.1 = p.2) (h2 : ∀ p ∈ hl x0, H p.1 = p.2) (hB : B ≤ nx)
    (round : ∀ x nx, J x → B ≤ nx → VWP P E c (Qbm (Qbq tl hl μ J B N x) Q) ⟨tmL (tl x), hpL (hl x), nx, N, none⟩) :
    VWP P E (.loop c) Q ⟨tm, H, nx, N, none⟩ := by
  refine Qql (fun m s => ∃ x, J x ∧ m = μ x ∧ (∀ p ∈ tl x, s.tm p.1 = p.2) ∧ (∀ p ∈ hl x, s.H p.1 = p.2) ∧ B ≤ s.nx ∧ s.N = N ∧ s.lim = none) (μ x0) ⟨x0, hJ, rfl, h1, h2, hB, rfl, rfl⟩ ?_
  rintro m s ⟨x, k1, rfl, k2, k3, k4, k5, k6⟩
  have hw := Qzx k2 k3 (Nat.le_refl s.nx) k6
  rw [k5] at hw
  refine Xer hw (Qpu (fun e s he => ?_) (round x s.nx k1 k4))
  cases e with
  | normal =>
    obtain ⟨ms, H', j0, x', j1, j2, j3, j4, j5, j6, j7⟩ := he
    exact ⟨{ s with H := H' }, fun g a w hr => (Qff hr j0).imp fun g' h => h.1, μ x', j2, x', j1, rfl, j3, j4, j5, j6, j7⟩
  | _ => exact ⟨s, fun g a w hr => ⟨g, hr⟩, he⟩
theorem Qax {x : Int} (h : -9223372036854775808 ≤ x ∧ x ≤ 9223372036854775807) : IntKind.i64.wrap x = x := by
  rw [IntKind.wrap_i64]
  omega
end
theorem Qdn {n : Nat} (h : n ≤ 1152921504606846976) : (n ≤ maxLen) = True := by
  have : maxLen = 9223372036854775807 := rfl
  rw [this]
  exact eq_true (by omega)
attribute [go_sem] eq_self bne_self_eq_false Option.isSome_some Xgm Xb2 Qwv Qps Qjh Qnr Qgd Xap oneS Qwg Qjo VV.pt Qwq List.size_toArray Xd3 Xcj Qus Xbb Qxg Xb3 Qs0 Xcs Qnj Qxh Qnm Qzf Qsa Qyv Xde Qxm Xeh Qw8 Qyb Ql6 Qnt Qvc Xct Qxy Xd5 Xee Xbe Qxo St.win St.nm Qyz Xbz Xcf Qzy Xb1 Xa7 Xch Qz7 Xhj Xed Xfl Xe8 tmL hpL Qip Qdv Qrl Qwu Xaz Qpg Qzs Qvg Xdp Qve if_true if_false ite_true ite_false dite_true true_and and_true Bool.false_eq_true Bool.true_eq_false Bool.not_true Bool.not_false not_true_eq_false not_false_eq_true List.getElem?_toArray List.getElem?_cons_succ List.getElem?_cons_zero List.getElem?_nil Option.getD_some Option.getD_none Option.bind_some Option.bind_none Option.map_some Option.map_none List.length_cons List.length_nil List.take_succ_cons List.take_zero List.take_nil List.drop_succ_cons List.drop_zero List.drop_nil List.map_cons List.map_nil List.replicate_zero List.replicate_succ List.range_zero List.range_succ Qqx bkE bkV bkA bkC tkB idx Qpj Qnk Qeq Xcq Qrr Xg0 Nat.add_zero Nat.sub_self List.all_cons List.all_nil Bool.and_true Bool.true_and List.cons_append List.nil_append List.append_nil Xg7 Xah Qvp Qsl Xhz vUn Xb5 Xev cond_true cond_false Xhq Qm5 Xgq Qx5 Xgo Qnx Qeh Qq9 Qkk Qb3 Qw2 Qel Qso Qj0 Qkr Qno Qjd Xfo vMin vMax Xej Xgy Qzt Qjq Qva Qgw Qd9 Qif Qcn Xex Qko spl Qcm Qjf VV.cells VV.cell VV.known PT.vv Qcy Xcx zPT Qt1 Qi0 Qte St.putd St.put St.room Ent.live Ent.isRoot TyD.isAgg Qcx shV shA shC Qs3 decide_true decide_false or_self or_false false_or or_true true_or and_self and_false false_and ne_eq beq_self_eq_true BEq.rfl List.isEmpty_nil List.length_map Int.toNat_natCast List.getElem?_map
end Go.Proofs.YtmiojnibngncaaaGreat
namespace Go.Proofs.YtmiojnibngncaaaGreat
open Go Go.RowKit
set_option maxRecDepth 100000
attribute [go_sem_proc] Nat.reduceLT Nat.reduceLeDiff Nat.reduceEqDiff Nat.reduceAdd Nat.reduceMul Nat.reduceSub reduceCtorEq
def tyL : List (Nat × TyE) := [
  (1, ⟨.sc, 1, 8, []⟩),
  (2, ⟨.it .i64, 1, 8, [.int .i64 0]⟩),
  (3, ⟨.it .i64, 1, 8, [.int .i64 0]⟩),
  (4, ⟨.bo, 1, 1, [.bool false]⟩),
  (5, ⟨.it .u8, 1, 1, [.int .u8 0]⟩),
  (6, ⟨.it .u8, 1, 1, [.int .u8 0]⟩),
  (7, ⟨.st [(0, 2), (1, 3), (2, 4), (3, 6)], 4, 24, [.int .i64 0, .int .i64 0, .bool false, .int .u8 0]⟩),
  (8, ⟨.st [(0, 2), (1, 3), (2, 4), (3, 6)], 4, 24, [.int .i64 0, .int .i64 0, .bool false, .int .u8 0]⟩),
  (9, ⟨.ss, 1, 16, [.str ByteArray.empty]⟩),
  (10, ⟨.ss, 1, 16, [.str ByteArray.empty]⟩),
  (11, ⟨.ss, 1, 16, [.str ByteArray.empty]⟩),
  (12, ⟨.it .u64, 1, 8, [.int .u64 0]⟩),
  (13, ⟨.st [(0, 9), (1, 12)], 2, 24, [.str ByteArray.empty, .int .u64 0]⟩),
  (14, ⟨.st [(0, 9), (1, 12)], 2, 24, [.str ByteArray.empty, .int .u64 0]⟩),
  (15, ⟨.sc, 1, 8, []⟩),
  (16, ⟨.sc, 1, 8, []⟩),
  (17, ⟨.sc, 1, 8, []⟩),
  (18, ⟨.st [(0, 17)], 1, 8, []⟩),
  (19, ⟨.st [(0, 17)], 1, 8, []⟩),
  (20, ⟨.sc, 1, 16, []⟩),
  (21, ⟨.it .i32, 1, 4, [.int .i32 0]⟩),
  (22, ⟨.sl 3, 1, 24, [.nl 3]⟩),
  (23, ⟨.sl 153, 1, 24, [.nl 153]⟩),
  (24, ⟨.sl 139, 1, 24, [.nl 139]⟩),
  (25, ⟨.st [(0, 23), (1, 24)], 2, 48, [.nl 153, .nl 139]⟩),
  (26, ⟨.st [(0, 23), (1, 24)], 2, 48, [.nl 153, .nl 139]⟩),
  (27, ⟨.sl 50, 1, 24, [.nl 50]⟩),
  (28, ⟨.sl 134, 1, 24, [.nl 134]⟩),
  (29, ⟨.st [(0, 22), (1, 26), (3, 27), (4, 28)], 5, 120, [.nl 3, .nl 153, .nl 139, .nl 50, .nl 134]⟩),
  (30, ⟨.st [(0, 22), (1, 26), (3, 27), (4, 28)], 5, 120, [.nl 3, .nl 153, .nl 139, .nl 50, .nl 134]⟩),
  (31, ⟨.sc, 1, 8, []⟩),
  (33, ⟨.sc, 1, 8, []⟩),
  (34, ⟨.sl 151, 1, 24, [.nl 151]⟩),
  (35, ⟨.sl 89, 1, 24, [.nl 89]⟩),
  (36, ⟨.st [(0, 34), (1, 35)], 2, 48, [.nl 151, .nl 89]⟩),
  (37, ⟨.st [(0, 34), (1, 35)], 2, 48, [.nl 151, .nl 89]⟩),
  (38, ⟨.sl 57, 1, 24, [.nl 57]⟩),
  (39, ⟨.sl 86, 1, 24, [.nl 86]⟩),
  (40, ⟨.st [(0, 22), (1, 37), (3, 38), (4, 39)], 5, 120, [.nl 3, .nl 151, .nl 89, .nl 57, .nl 86]⟩),
  (41, ⟨.st [(0, 22), (1, 37), (3, 38), (4, 39)], 5, 120, [.nl 3, .nl 151, .nl 89, .nl 57, .nl 86]⟩),
  (42, ⟨.sc, 1, 8, []⟩),
  (43, ⟨.sc, 1, 8, []⟩),
  (44, ⟨.sc, 1, 8, []⟩),
  (45, ⟨.sl 156, 1, 24, [.nl 156]⟩),
  (46, ⟨.ar 4 3, 4, 32, [.int .i64 0, .int .i64 0, .int .i64 0, .int .i64 0]⟩),
  (47, ⟨.sl 158, 1, 24, [.nl 158]⟩),
  (48, ⟨.sl 162, 1, 24, [.nl 162]⟩),
  (49, ⟨.st [(0, 3), (1, 45), (2, 3), (3, 46), (7, 47), (8, 3), (9, 48), (10, 3), (11, 3), (12, 3), (13, 3)], 14, 160, [.int .i64 0, .nl 156, .int .i64 0, .int .i64 0, .int .i64 0, .int .i64 0, .int .i64 0, .nl 158, .int .i64 0, .nl 162, .int .i64 0, .int .i64 0, .int .i64 0, .int .i64 0]⟩),
  (50, ⟨.st [(0, 3), (1, 45), (2, 3), (3, 46), (7, 47), (8, 3), (9, 48), (10, 3), (11, 3), (12, 3), (13, 3)], 14, 160, [.int .i64 0, .nl 156, .int .i64 0, .int .i64 0, .int .i64 0, .int .i64 0, .int .i64 0, .nl 158, .int .i64 0, .nl 162, .int .i64 0, .int .i64 0, .int .i64 0, .int .i64 0]⟩),
  (51, ⟨.sc, 1, 8, []⟩),
  (52, ⟨.sc, 1, 8, []⟩),
  (53, ⟨.sl 146, 1, 24, [.nl 146]⟩),
  (54, ⟨.sl 91, 1, 24, [.nl 91]⟩),
  (55, ⟨.sl 160, 1, 24, [.nl 160]⟩),
  (56, ⟨.st [(0, 3), (1, 53), (2, 3), (3, 46), (7, 54), (8, 3), (9, 55), (10, 3), (11, 3), (12, 3), (13, 3)], 14, 160, [.int .i64 0, .nl 146, .int .i64 0, .int .i64 0, .int .i64 0, .int .i64 0, .int .i64 0, .nl 91, .int .i64 0, .nl 160, .int .i64 0, .int .i64 0, .int .i64 0, .int .i64 0]⟩),
  (57, ⟨.st [(0, 3), (1, 53), (2, 3), (3, 46), (7, 54), (8, 3), (9, 55), (10, 3), (11, 3), (12, 3), (13, 3)], 14, 160, [.int .i64 0, .nl 146, .int .i64 0, .int .i64 0, .int .i64 0, .int .i64 0, .int .i64 0, .nl 91, .int .i64 0, .nl 160, .int .i64 0, .int .i64 0, .int .i64 0, .int .i64 0]⟩),
  (59, ⟨.sc, 1, 8, []⟩),
  (60, ⟨.sc, 1, 8, []⟩),
  (61, ⟨.sc, 1, 8, []⟩),
  (62, ⟨.sc, 1, 8, []⟩),
  (63, ⟨.sc, 1, 8, []⟩),
  (64, ⟨.sc, 1, 8, []⟩),
  (65, ⟨.sc, 1, 8, []⟩),
  (66, ⟨.sc, 1, 8, []⟩),
  (67, ⟨.sc, 1, 8, []⟩),
  (68, ⟨.sc, 1, 8, []⟩),
  (70, ⟨.sc, 1, 8, []⟩),
  (71, ⟨.sc, 1, 8, []⟩),
  (72, ⟨.sc, 1, 8, []⟩),
  (74, ⟨.sc, 1, 8, []⟩),
  (75, ⟨.sc, 1, 8, []⟩),
  (76, ⟨.sc, 1, 8, []⟩),
  (77, ⟨.sc, 1, 8, []⟩),
  (78, ⟨.sc, 1, 8, []⟩),
  (80, ⟨.sc, 1, 8, []⟩),
  (81, ⟨.sc, 1, 8, []⟩),
  (82, ⟨.sc, 1, 8, []⟩),
  (83, ⟨.sc, 1, 8, []⟩),
  (84, ⟨.sc, 1, 8, []⟩),
  (85, ⟨.st [(0, 3), (1, 3), (2, 3), (3, 3)], 4, 32, [.int .i64 0, .int .i64 0, .int .i64 0, .int .i64 0]⟩),
  (86, ⟨.st [(0, 3), (1, 3), (2, 3), (3, 3)], 4, 32, [.int .i64 0, .int .i64 0, .int .i64 0, .int .i64 0]⟩),
  (87, ⟨.sc, 1, 8, []⟩),
  (88, ⟨.st [(0, 3), (1, 3), (2, 54)], 3, 40, [.int .i64 0, .int .i64 0, .nl 91]⟩),
  (89, ⟨.st [(0, 3), (1, 3), (2, 54)], 3, 40, [.int .i64 0, .int .i64 0, .nl 91]⟩),
  (90, ⟨.st [(0, 3), (1, 3), (2, 3), (3, 3), (4, 4)], 5, 40, [.int .i64 0, .int .i64 0, .int .i64 0, .int .i64 0, .bool false]⟩),
  (91, ⟨.st [(0, 3), (1, 3), (2, 3), (3, 3), (4, 4)], 5, 40, [.int .i64 0, .int .i64 0, .int .i64 0, .int .i64 0, .bool false]⟩),
  (92, ⟨.sc, 1, 8, []⟩),
  (93, ⟨.sc, 1, 8, []⟩),
  (94, ⟨.sc, 1, 8, []⟩),
  (95, ⟨.sc, 1, 8, []⟩),
  (96, ⟨.sc, 1, 8, []⟩),
  (97, ⟨.sc, 1, 8, []⟩),
  (98, ⟨.sc, 1, 8, []⟩),
  (99, ⟨.sc, 1, 8, []⟩),
  (100, ⟨.sc, 1, 8, []⟩),
  (101, ⟨.sc, 1, 8, []⟩),
  (102, ⟨.sc, 1, 8, []⟩),
  (103, ⟨.sc, 1, 8, []⟩),
  (104, ⟨.sc, 1, 8, []⟩),
  (105, ⟨.sc, 1, 8, []⟩),
  (106, ⟨.sc, 1, 8, []⟩),
  (107, ⟨.sc, 1, 8, []⟩),
  (108, ⟨.sc, 1, 8, []⟩),
  (109, ⟨.sc, 1, 8, []⟩),
  (110, ⟨.sc, 1, 8, []⟩),
  (111, ⟨.sc, 1, 8, []⟩),
  (112, ⟨.sc, 1, 8, []⟩),
  (113, ⟨.sc, 1, 8, []⟩),
  (114, ⟨.sc, 1, 8, []⟩),
  (115, ⟨.sc, 1, 8, []⟩),
  (116, ⟨.sc, 1, 8, []⟩),
  (117, ⟨.sc, 1, 8, []⟩),
  (118, ⟨.sc, 1, 8, []⟩),
  (119, ⟨.sc, 1, 8, []⟩),
  (120, ⟨.sc, 1, 8, []⟩),
  (121, ⟨.sc, 1, 8, []⟩),
  (122, ⟨.sc, 1, 8, []⟩),
  (123, ⟨.sc, 1, 8, []⟩),
  (124, ⟨.sc, 1, 8, []⟩),
  (125, ⟨.sc, 1, 8, []⟩),
  (126, ⟨.sc, 1, 8, []⟩),
  (127, ⟨.sc, 1, 8, []⟩),
  (128, ⟨.sc, 1, 8, []⟩),
  (129, ⟨.sc, 1, 8, []⟩),
  (130, ⟨.sc, 1, 8, []⟩),
  (131, ⟨.sc, 1, 8, []⟩),
  (132, ⟨.sc, 1, 8, []⟩),
  (133, ⟨.sc, 1, 8, []⟩),
  (134, ⟨.st [(0, 3), (1, 3), (2, 3), (3, 3)], 4, 32, [.int .i64 0, .int .i64 0, .int .i64 0, .int .i64 0]⟩),
  (135, ⟨.sc, 1, 8, []⟩),
  (136, ⟨.sc, 1, 8, []⟩),
  (137, ⟨.sc, 1, 8, []⟩),
  (138, ⟨.st [(0, 3), (1, 3), (2, 47)], 3, 40, [.int .i64 0, .int .i64 0, .nl 158]⟩),
  (139, ⟨.st [(0, 3), (1, 3), (2, 47)], 3, 40, [.int .i64 0, .int .i64 0, .nl 158]⟩),
  (140, ⟨.sc, 1, 8, []⟩),
  (141, ⟨.sc, 1, 8, []⟩),
  (142, ⟨.sc, 1, 8, []⟩),
  (143, ⟨.sc, 1, 8, []⟩),
  (144, ⟨.sc, 1, 8, []⟩),
  (145, ⟨.st [(0, 3), (1, 3), (2, 3)], 3, 24, [.int .i64 0, .int .i64 0, .int .i64 0]⟩),
  (146, ⟨.st [(0, 3), (1, 3), (2, 3)], 3, 24, [.int .i64 0, .int .i64 0, .int .i64 0]⟩),
  (148, ⟨.sc, 1, 8, []⟩),
  (149, ⟨.sc, 1, 8, []⟩),
  (150, ⟨.st [(0, 3), (1, 3), (2, 3)], 3, 24, [.int .i64 0, .int .i64 0, .int .i64 0]⟩),
  (151, ⟨.st [(0, 3), (1, 3), (2, 3)], 3, 24, [.int .i64 0, .int .i64 0, .int .i64 0]⟩),
  (152, ⟨.sc, 1, 8, []⟩),
  (153, ⟨.st [(0, 3), (1, 3), (2, 3)], 3, 24, [.int .i64 0, .int .i64 0, .int .i64 0]⟩),
  (154, ⟨.sc, 1, 8, []⟩),
  (155, ⟨.sc, 1, 8, []⟩),
  (156, ⟨.st [(0, 3), (1, 3), (2, 3)], 3, 24, [.int .i64 0, .int .i64 0, .int .i64 0]⟩),
  (157, ⟨.sc, 1, 8, []⟩),
  (158, ⟨.st [(0, 3), (1, 3), (2, 3), (3, 3), (4, 4)], 5, 40, [.int .i64 0, .int .i64 0, .int .i64 0, .int .i64 0, .bool false]⟩),
  (159, ⟨.st [(0, 3), (1, 3), (2, 3)], 3, 24, [.int .i64 0, .int .i64 0, .int .i64 0]⟩),
  (160, ⟨.st [(0, 3), (1, 3), (2, 3)], 3, 24, [.int .i64 0, .int .i64 0, .int .i64 0]⟩),
  (161, ⟨.sc, 1, 8, []⟩),
  (162, ⟨.st [(0, 3), (1, 3), (2, 3)], 3, 24, [.int .i64 0, .int .i64 0, .int .i64 0]⟩),
  (163, ⟨.sc, 1, 8, []⟩),
  (164, ⟨.sc, 1, 8, []⟩),
  (165, ⟨.sc, 1, 8, []⟩),
  (166, ⟨.sc, 1, 8, []⟩),
  (167, ⟨.sc, 1, 8, []⟩),
  (168, ⟨.sc, 1, 8, []⟩),
  (170, ⟨.sc, 1, 8, []⟩),
  (171, ⟨.sc, 1, 8, []⟩),
  (172, ⟨.sc, 1, 8, []⟩),
  (173, ⟨.sc, 1, 8, []⟩),
  (174, ⟨.sc, 1, 8, []⟩),
  (175, ⟨.sc, 1, 8, []⟩),
  (176, ⟨.sc, 1, 8, []⟩),
  (177, ⟨.sc, 1, 8, []⟩),
  (178, ⟨.sc, 1, 8, []⟩),
  (179, ⟨.sc, 1, 8, []⟩),
  (180, ⟨.sc, 1, 8, []⟩),
  (181, ⟨.sc, 1, 8, []⟩),
  (182, ⟨.sc, 1, 8, []⟩),
  (183, ⟨.sc, 1, 8, []⟩),
  (184, ⟨.sc, 1, 8, []⟩),
  (185, ⟨.sc, 1, 8, []⟩),
  (186, ⟨.sc, 1, 8, []⟩),
  (187, ⟨.sc, 1, 8, []⟩),
  (188, ⟨.sc, 1, 8, []⟩),
  (190, ⟨.sc, 1, 8, []⟩),
  (192, ⟨.sc, 1, 8, []⟩),
  (193, ⟨.sc, 1, 8, []⟩),
  (194, ⟨.sc, 1, 8, []⟩),
  (195, ⟨.sc, 1, 8, []⟩),
  (196, ⟨.sc, 1, 8, []⟩),
  (197, ⟨.sc, 1, 8, []⟩),
  (198, ⟨.sc, 1, 8, []⟩),
  (199, ⟨.sc, 1, 8, []⟩),
  (201, ⟨.sc, 1, 8, []⟩),
  (202, ⟨.sc, 1, 8, []⟩),
  (204, ⟨.sc, 1, 8, []⟩),
  (205, ⟨.sc, 1, 8, []⟩),
  (206, ⟨.sc, 1, 8, []⟩),
  (207, ⟨.sc, 1, 8, []⟩),
  (208, ⟨.sc, 1, 8, []⟩),
  (209, ⟨.sc, 1, 8, []⟩),
  (210, ⟨.sc, 1, 8, []⟩),
  (211, ⟨.sc, 1, 8, []⟩),
  (212, ⟨.ar 6 3, 6, 48, [.int .i64 0, .int .i64 0, .int .i64 0, .int .i64 0, .int .i64 0, .int .i64 0]⟩),
  (213, ⟨.sc, 1, 8, []⟩),
  (214, ⟨.sc, 1, 8, []⟩),
  (215, ⟨.sc, 1, 8, []⟩),
  (216, ⟨.it .u64, 1, 8, [.int .u64 0]⟩),
  (217, ⟨.sc, 1, 8, []⟩),
  (218, ⟨.sc, 1, 8, []⟩),
  (219, ⟨.it .i64, 1, 8, [.int .i64 0]⟩),
  (221, ⟨.sc, 1, 8, []⟩),
  (222, ⟨.sc, 1, 8, []⟩),
  (223, ⟨.sc, 1, 8, []⟩),
  (225, ⟨.sc, 1, 8, []⟩),
  (226, ⟨.sc, 1, 8, []⟩),
  (227, ⟨.it .u32, 1, 4, [.int .u32 0]⟩),
  (228, ⟨.sc, 1, 8, []⟩),
  (229, ⟨.it .u64, 1, 8, [.int .u64 0]⟩),
  (230, ⟨.it .u64, 1, 8, [.int .u64 0]⟩),
  (231, ⟨.sc, 1, 8, []⟩),
  (232, ⟨.sc, 1, 8, []⟩),
  (233, ⟨.sc, 1, 8, []⟩),
  (234, ⟨.sc, 1, 8, []⟩),
  (235, ⟨.sc, 1, 8, []⟩),
  (236, ⟨.sc, 1, 8, []⟩),
  (237, ⟨.sc, 1, 8, []⟩),
  (238, ⟨.st [(0, 17), (1, 17), (2, 17), (3, 9)], 4, 40, []⟩),
  (239, ⟨.st [(0, 17), (1, 17), (2, 17), (3, 9)], 4, 40, []⟩),
  (240, ⟨.ar 0 16, 0, 0, []⟩),
  (241, ⟨.st [(0, 240)], 0, 0, []⟩),
  (242, ⟨.st [(0, 240)], 0, 0, []⟩),
  (243, ⟨.sc, 1, 8, []⟩),
  (244, ⟨.it .u8, 1, 1, [.int .u8 0]⟩),
  (245, ⟨.it .u8, 1, 1, [.int .u8 0]⟩),
  (246, ⟨.sc, 1, 8, []⟩),
  (247, ⟨.sc, 1, 8, []⟩),
  (248, ⟨.it .i32, 1, 4, [.int .i32 0]⟩),
  (249, ⟨.it .i32, 1, 4, [.int .i32 0]⟩),
  (250, ⟨.st [(0, 12), (1, 12), (2, 227), (3, 244), (4, 5), (5, 5), (6, 245), (7, 246), (8, 247), (9, 248), (10, 249)], 11, 48, []⟩),
  (251, ⟨.st [(0, 12), (1, 12), (2, 227), (3, 244), (4, 5), (5, 5), (6, 245), (7, 246), (8, 247), (9, 248), (10, 249)], 11, 48, []⟩),
  (252, ⟨.sc, 1, 8, []⟩)]
def ty : Ty := fun t => (tyL.find? fun p => Nat.beq p.1 t).map (·.2)
@[go_sem] theorem ty_1 : ty 1 = some ⟨.sc, 1, 8, []⟩ := by kernel_rfl
@[go_sem] theorem ty_2 : ty 2 = some ⟨.it .i64, 1, 8, [.int .i64 0]⟩ := by kernel_rfl
@[go_sem] theorem Xgu : ty 3 = some ⟨.it .i64, 1, 8, [.int .i64 0]⟩ := by kernel_rfl
@[go_sem] theorem ty_4 : ty 4 = some ⟨.bo, 1, 1, [.bool false]⟩ := by kernel_rfl
@[go_sem] theorem ty_5 : ty 5 = some ⟨.it .u8, 1, 1, [.int .u8 0]⟩ := by kernel_rfl
@[go_sem] theorem ty_6 : ty 6 = some ⟨.it .u8, 1, 1, [.int .u8 0]⟩ := by kernel_rfl
@[go_sem] theorem ty_7 : ty 7 = some ⟨.st [(0, 2), (1, 3), (2, 4), (3, 6)], 4, 24, [.int .i64 0, .int .i64 0, .bool false, .int .u8 0]⟩ := by kernel_rfl
@[go_sem] theorem ty_8 : ty 8 = some ⟨.st [(0, 2), (1, 3), (2, 4), (3, 6)], 4, 24, [.int .i64 0, .int .i64 0, .bool false, .int .u8 0]⟩ := by kernel_rfl
@[go_sem] theorem ty_9 : ty 9 = some ⟨.ss, 1, 16, [.str ByteArray.empty]⟩ := by kernel_rfl
@[go_sem] theorem ty_10 : ty 10 = some ⟨.ss, 1, 16, [.str ByteArray.empty]⟩ := by kernel_rfl
@[go_sem] theorem ty_11 : ty 11 = some ⟨.ss, 1, 16, [.str ByteArray.empty]⟩ := by kernel_rfl
@[go_sem] theorem ty_12 : ty 12 = some ⟨.it .u64, 1, 8, [.int .u64 0]⟩ := by kernel_rfl
@[go_sem] theorem ty_13 : ty 13 = some ⟨.st [(0, 9), (1, 12)], 2, 24, [.str ByteArray.empty, .int .u64 0]⟩ := by kernel_rfl
@[go_sem] theorem ty_14 : ty 14 = some ⟨.st [(0, 9), (1, 12)], 2, 24, [.str ByteArray.empty, .int .u64 0]⟩ := by kernel_rfl
@[go_sem] theorem ty_15 : ty 15 = some ⟨.sc, 1, 8, []⟩ := by kernel_rfl
@[go_sem] theorem ty_16 : ty 16 = some ⟨.sc, 1, 8, []⟩ := by kernel_rfl
@[go_sem] theorem ty_17 : ty 17 = some ⟨.sc, 1, 8, []⟩ := by kernel_rfl
@[go_sem] theorem ty_18 : ty 18 = some ⟨.st [(0, 17)], 1, 8, []⟩ := by kernel_rfl
@[go_sem] theorem ty_19 : ty 19 = some ⟨.st [(0, 17)], 1, 8, []⟩ := by kernel_rfl
@[go_sem] theorem ty_20 : ty 20 = some ⟨.sc, 1, 16, []⟩ := by kernel_rfl
@[go_sem] theorem ty_21 : ty 21 = some ⟨.it .i32, 1, 4, [.int .i32 0]⟩ := by kernel_rfl
@[go_sem] theorem ty_22 : ty 22 = some ⟨.sl 3, 1, 24, [.nl 3]⟩ := by kernel_rfl
@[go_sem] theorem ty_23 : ty 23 = some ⟨.sl 153, 1, 24, [.nl 153]⟩ := by kernel_rfl
@[go_sem] theorem ty_24 : ty 24 = some ⟨.sl 139, 1, 24, [.nl 139]⟩ := by kernel_rfl
@[go_sem] theorem ty_25 : ty 25 = some ⟨.st [(0, 23), (1, 24)], 2, 48, [.nl 153, .nl 139]⟩ := by kernel_rfl
@[go_sem] theorem ty_26 : ty 26 = some ⟨.st [(0, 23), (1, 24)], 2, 48, [.nl 153, .nl 139]⟩ := by kernel_rfl
@[go_sem] theorem ty_27 : ty 27 = some ⟨.sl 50, 1, 24, [.nl 50]⟩ := by kernel_rfl
@[go_sem] theorem ty_28 : ty 28 = some ⟨.sl 134, 1, 24, [.nl 134]⟩ := by kernel_rfl
@[go_sem] theorem ty_29 : ty 29 = some ⟨.st [(0, 22), (1, 26), (3, 27), (4, 28)], 5, 120, [.nl 3, .nl 153, .nl 139, .nl 50, .nl 134]⟩ := by kernel_rfl
@[go_sem] theorem ty_30 : ty 30 = some ⟨.st [(0, 22), (1, 26), (3, 27), (4, 28)], 5, 120, [.nl 3, .nl 153, .nl 139, .nl 50, .nl 134]⟩ := by kernel_rfl
@[go_sem] theorem ty_31 : ty 31 = some ⟨.sc, 1, 8, []⟩ := by kernel_rfl
@[go_sem] theorem ty_33 : ty 33 = some ⟨.sc, 1, 8, []⟩ := by kernel_rfl
@[go_sem] theorem ty_34 : ty 34 = some ⟨.sl 151, 1, 24, [.nl 151]⟩ := by kernel_rfl
@[go_sem] theorem ty_35 : ty 35 = some ⟨.sl 89, 1, 24, [.nl 89]⟩ := by kernel_rfl
@[go_sem] theorem ty_36 : ty 36 = some ⟨.st [(0, 34), (1, 35)], 2, 48, [.nl 151, .nl 89]⟩ := by kernel_rfl
@[go_sem] theorem ty_37 : ty 37 = some ⟨.st [(0, 34), (1, 35)], 2, 48, [.nl 151, .nl 89]⟩ := by kernel_rfl
@[go_sem] theorem ty_38 : ty 38 = some ⟨.sl 57, 1, 24, [.nl 57]⟩ := by kernel_rfl
@[go_sem] theorem ty_39 : ty 39 = some ⟨.sl 86, 1, 24, [.nl 86]⟩ := by kernel_rfl
@[go_sem] theorem ty_40 : ty 40 = some ⟨.st [(0, 22), (1, 37), (3, 38), (4, 39)], 5, 120, [.nl 3, .nl 151, .nl 89, .nl 57, .nl 86]⟩ := by kernel_rfl
@[go_sem] theorem ty_41 : ty 41 = some ⟨.st [(0, 22), (1, 37), (3, 38), (4, 39)], 5, 120, [.nl 3, .nl 151, .nl 89, .nl 57, .nl 86]⟩ := by kernel_rfl
@[go_sem] theorem ty_42 : ty 42 = some ⟨.sc, 1, 8, []⟩ := by kernel_rfl
@[go_sem] theorem ty_43 : ty 43 = some ⟨.sc, 1, 8, []⟩ := by kernel_rfl
@[go_sem] theorem ty_44 : ty 44 = some ⟨.sc, 1, 8, []⟩ := by kernel_rfl
@[go_sem] theorem ty_45 : ty 45 = some ⟨.sl 156, 1, 24, [.nl 156]⟩ := by kernel_rfl
@[go_sem] theorem ty_46 : ty 46 = some ⟨.ar 4 3, 4, 32, [.int .i64 0, .int .i64 0, .int .i64 0, .int .i64 0]⟩ := by kernel_rfl
@[go_sem] theorem Xhs : ty 47 = some ⟨.sl 158, 1, 24, [.nl 158]⟩ := by kernel_rfl
@[go_sem] theorem ty_48 : ty 48 = some ⟨.sl 162, 1, 24, [.nl 162]⟩ := by kernel_rfl
@[go_sem] theorem ty_49 : ty 49 = some ⟨.st [(0, 3), (1, 45), (2, 3), (3, 46), (7, 47), (8, 3), (9, 48), (10, 3), (11, 3), (12, 3), (13, 3)], 14, 160, [.int .i64 0, .nl 156, .int .i64 0, .int .i64 0, .int .i64 0, .int .i64 0, .int .i64 0, .nl 158, .int .i64 0, .nl 162, .int .i64 0, .int .i64 0, .int .i64 0, .int .i64 0]⟩ := by kernel_rfl
@[go_sem] theorem ty_50 : ty 50 = some ⟨.st [(0, 3), (1, 45), (2, 3), (3, 46), (7, 47), (8, 3), (9, 48), (10, 3), (11, 3), (12, 3), (13, 3)], 14, 160, [.int .i64 0, .nl 156, .int .i64 0, .int .i64 0, .int .i64 0, .int .i64 0, .int .i64 0, .nl 158, .int .i64 0, .nl 162, .int .i64 0, .int .i64 0, .int .i64 0, .int .i64 0]⟩ := by kernel_rfl
@[go_sem] theorem ty_51 : ty 51 = some ⟨.sc, 1, 8, []⟩ := by kernel_rfl
@[go_sem] theorem ty_52 : ty 52 = some ⟨.sc, 1, 8, []⟩ := by kernel_rfl
@[go_sem] theorem ty_53 : ty 53 = some ⟨.sl 146, 1, 24, [.nl 146]⟩ := by kernel_rfl
@[go_sem] theorem ty_54 : ty 54 = some ⟨.sl 91, 1, 24, [.nl 91]⟩ := by kernel_rfl
@[go_sem] theorem ty_55 : ty 55 = some ⟨.sl 160, 1, 24, [.nl 160]⟩ := by kernel_rfl
@[go_sem] theorem ty_56 : ty 56 = some ⟨.st [(0, 3), (1, 53), (2, 3), (3, 46), (7, 54), (8, 3), (9, 55), (10, 3), (11, 3), (12, 3), (13, 3)], 14, 160, [.int .i64 0, .nl 146, .int .i64 0, .int .i64 0, .int .i64 0, .int .i64 0, .int .i64 0, .nl 91, .int .i64 0, .nl 160, .int .i64 0, .int .i64 0, .int .i64 0, .int .i64 0]⟩ := by kernel_rfl
@[go_sem] theorem ty_57 : ty 57 = some ⟨.st [(0, 3), (1, 53), (2, 3), (3, 46), (7, 54), (8, 3), (9, 55), (10, 3), (11, 3), (12, 3), (13, 3)], 14, 160, [.int .i64 0, .nl 146, .int .i64 0, .int .i64 0, .int .i64 0, .int .i64 0, .int .i64 0, .nl 91, .int .i64 0, .nl 160, .int .i64 0, .int .i64 0, .int .i64 0, .int .i64 0]⟩ := by kernel_rfl
@[go_sem] theorem ty_59 : ty 59 = some ⟨.sc, 1, 8, []⟩ := by kernel_rfl
@[go_sem] theorem ty_60 : ty 60 = some ⟨.sc, 1, 8, []⟩ := by kernel_rfl
@[go_sem] theorem ty_61 : ty 61 = some ⟨.sc, 1, 8, []⟩ := by kernel_rfl
@[go_sem] theorem ty_62 : ty 62 = some ⟨.sc, 1, 8, []⟩ := by kernel_rfl
@[go_sem] theorem ty_63 : ty 63 = some ⟨.sc, 1, 8, []⟩ := by kernel_rfl
@[go_sem] theorem ty_64 : ty 64 = some ⟨.sc, 1, 8, []⟩ := by kernel_rfl
@[go_sem] theorem ty_65 : ty 65 = some ⟨.sc, 1, 8, []⟩ := by kernel_rfl
@[go_sem] theorem ty_66 : ty 66 = some ⟨.sc, 1, 8, []⟩ := by kernel_rfl
@[go_sem] theorem ty_67 : ty 67 = some ⟨.sc, 1, 8, []⟩ := by kernel_rfl
@[go_sem] theorem ty_68 : ty 68 = some ⟨.sc, 1, 8, []⟩ := by kernel_rfl
@[go_sem] theorem ty_70 : ty 70 = some ⟨.sc, 1, 8, []⟩ := by kernel_rfl
@[go_sem] theorem ty_71 : ty 71 = some ⟨.sc, 1, 8, []⟩ := by kernel_rfl
@[go_sem] theorem ty_72 : ty 72 = some ⟨.sc, 1, 8, []⟩ := by kernel_rfl
@[go_sem] theorem ty_74 : ty 74 = some ⟨.sc, 1, 8, []⟩ := by kernel_rfl
@[go_sem] theorem ty_75 : ty 75 = some ⟨.sc, 1, 8, []⟩ := by kernel_rfl
@[go_sem] theorem ty_76 : ty 76 = some ⟨.sc, 1, 8, []⟩ := by kernel_rfl
@[go_sem] theorem ty_77 : ty 77 = some ⟨.sc, 1, 8, []⟩ := by kernel_rfl
@[go_sem] theorem ty_78 : ty 78 = some ⟨.sc, 1, 8, []⟩ := by kernel_rfl
@[go_sem] theorem ty_80 : ty 80 = some ⟨.sc, 1, 8, []⟩ := by kernel_rfl
@[go_sem] theorem ty_81 : ty 81 = some ⟨.sc, 1, 8, []⟩ := by kernel_rfl
@[go_sem] theorem ty_82 : ty 82 = some ⟨.sc, 1, 8, []⟩ := by kernel_rfl
@[go_sem] theorem ty_83 : ty 83 = some ⟨.sc, 1, 8, []⟩ := by kernel_rfl
@[go_sem] theorem ty_84 : ty 84 = some ⟨.sc, 1, 8, []⟩ := by kernel_rfl
@[go_sem] theorem ty_85 : ty 85 = some ⟨.st [(0, 3), (1, 3), (2, 3), (3, 3)], 4, 32, [.int .i64 0, .int .i64 0, .int .i64 0, .int .i64 0]⟩ := by kernel_rfl
@[go_sem] theorem ty_86 : ty 86 = some ⟨.st [(0, 3), (1, 3), (2, 3), (3, 3)], 4, 32, [.int .i64 0, .int .i64 0, .int .i64 0, .int .i64 0]⟩ := by kernel_rfl
@[go_sem] theorem ty_87 : ty 87 = some ⟨.sc, 1, 8, []⟩ := by kernel_rfl
@[go_sem] theorem ty_88 : ty 88 = some ⟨.st [(0, 3), (1, 3), (2, 54)], 3, 40, [.int .i64 0, .int .i64 0, .nl 91]⟩ := by kernel_rfl
@[go_sem] theorem ty_89 : ty 89 = some ⟨.st [(0, 3), (1, 3), (2, 54)], 3, 40, [.int .i64 0, .int .i64 0, .nl 91]⟩ := by kernel_rfl
@[go_sem] theorem ty_90 : ty 90 = some ⟨.st [(0, 3), (1, 3), (2, 3), (3, 3), (4, 4)], 5, 40, [.int .i64 0, .int .i64 0, .int .i64 0, .int .i64 0, .bool false]⟩ := by kernel_rfl
@[go_sem] theorem ty_91 : ty 91 = some ⟨.st [(0, 3), (1, 3), (2, 3), (3, 3), (4, 4)], 5, 40, [.int .i64 0, .int .i64 0, .int .i64 0, .int .i64 0, .bool false]⟩ := by kernel_rfl
@[go_sem] theorem ty_92 : ty 92 = some ⟨.sc, 1, 8, []⟩ := by kernel_rfl
@[go_sem] theorem ty_93 : ty 93 = some ⟨.sc, 1, 8, []⟩ := by kernel_rfl
@[go_sem] theorem ty_94 : ty 94 = some ⟨.sc, 1, 8, []⟩ := by kernel_rfl
@[go_sem] theorem ty_95 : ty 95 = some ⟨.sc, 1, 8, []⟩ := by kernel_rfl
@[go_sem] theorem ty_96 : ty 96 = some ⟨.sc, 1, 8, []⟩ := by kernel_rfl
@[go_sem] theorem ty_97 : ty 97 = some ⟨.sc, 1, 8, []⟩ := by kernel_rfl
@[go_sem] theorem ty_98 : ty 98 = some ⟨.sc, 1, 8, []⟩ := by kernel_rfl
@[go_sem] theorem ty_99 : ty 99 = some ⟨.sc, 1, 8, []⟩ := by kernel_rfl
@[go_sem] theorem ty_100 : ty 100 = some ⟨.sc, 1, 8, []⟩ := by kernel_rfl
@[go_sem] theorem ty_101 : ty 101 = some ⟨.sc, 1, 8, []⟩ := by kernel_rfl
@[go_sem] theorem ty_102 : ty 102 = some ⟨.sc, 1, 8, []⟩ := by kernel_rfl
@[go_sem] theorem ty_103 : ty 103 = some ⟨.sc, 1, 8, []⟩ := by kernel_rfl
@[go_sem] theorem ty_104 : ty 104 = some ⟨.sc, 1, 8, []⟩ := by kernel_rfl
@[go_sem] theorem ty_105 : ty 105 = some ⟨.sc, 1, 8, []⟩ := by kernel_rfl
@[go_sem] theorem ty_106 : ty 106 = some ⟨.sc, 1, 8, []⟩ := by kernel_rfl
@[go_sem] theorem ty_107 : ty 107 = some ⟨.sc, 1, 8, []⟩ := by kernel_rfl
@[go_sem] theorem ty_108 : ty 108 = some ⟨.sc, 1, 8, []⟩ := by kernel_rfl
@[go_sem] theorem ty_109 : ty 109 = some ⟨.sc, 1, 8, []⟩ := by kernel_rfl
@[go_sem] theorem ty_110 : ty 110 = some ⟨.sc, 1, 8, []⟩ := by kernel_rfl
@[go_sem] theorem ty_111 : ty 111 = some ⟨.sc, 1, 8, []⟩ := by kernel_rfl
@[go_sem] theorem ty_112 : ty 112 = some ⟨.sc, 1, 8, []⟩ := by kernel_rfl
@[go_sem] theorem ty_113 : ty 113 = some ⟨.sc, 1, 8, []⟩ := by kernel_rfl
@[go_sem] theorem ty_114 : ty 114 = some ⟨.sc, 1, 8, []⟩ := by kernel_rfl
@[go_sem] theorem ty_115 : ty 115 = some ⟨.sc, 1, 8, []⟩ := by kernel_rfl
@[go_sem] theorem ty_116 : ty 116 = some ⟨.sc, 1, 8, []⟩ := by kernel_rfl
@[go_sem] theorem ty_117 : ty 117 = some ⟨.sc, 1, 8, []⟩ := by kernel_rfl
@[go_sem] theorem ty_118 : ty 118 = some ⟨.sc, 1, 8, []⟩ := by kernel_rfl
@[go_sem] theorem ty_119 : ty 119 = some ⟨.sc, 1, 8, []⟩ := by kernel_rfl
@[go_sem] theorem ty_120 : ty 120 = some ⟨.sc, 1, 8, []⟩ := by kernel_rfl
@[go_sem] theorem ty_121 : ty 121 = some ⟨.sc, 1, 8, []⟩ := by kernel_rfl
@[go_sem] theorem ty_122 : ty 122 = some ⟨.sc, 1, 8, []⟩ := by kernel_rfl
@[go_sem] theorem ty_123 : ty 123 = some ⟨.sc, 1, 8, []⟩ := by kernel_rfl
@[go_sem] theorem ty_124 : ty 124 = some ⟨.sc, 1, 8, []⟩ := by kernel_rfl
@[go_sem] theorem ty_125 : ty 125 = some ⟨.sc, 1, 8, []⟩ := by kernel_rfl
@[go_sem] theorem ty_126 : ty 126 = some ⟨.sc, 1, 8, []⟩ := by kernel_rfl
@[go_sem] theorem ty_127 : ty 127 = some ⟨.sc, 1, 8, []⟩ := by kernel_rfl
@[go_sem] theorem ty_128 : ty 128 = some ⟨.sc, 1, 8, []⟩ := by kernel_rfl
@[go_sem] theorem ty_129 : ty 129 = some ⟨.sc, 1, 8, []⟩ := by kernel_rfl
@[go_sem] theorem ty_130 : ty 130 = some ⟨.sc, 1, 8, []⟩ := by kernel_rfl
@[go_sem] theorem ty_131 : ty 131 = some ⟨.sc, 1, 8, []⟩ := by kernel_rfl
@[go_sem] theorem ty_132 : ty 132 = some ⟨.sc, 1, 8, []⟩ := by kernel_rfl
@[go_sem] theorem ty_133 : ty 133 = some ⟨.sc, 1, 8, []⟩ := by kernel_rfl
@[go_sem] theorem ty_134 : ty 134 = some ⟨.st [(0, 3), (1, 3), (2, 3), (3, 3)], 4, 32, [.int .i64 0, .int .i64 0, .int .i64 0, .int .i64 0]⟩ := by kernel_rfl
@[go_sem] theorem ty_135 : ty 135 = some ⟨.sc, 1, 8, []⟩ := by kernel_rfl
@[go_sem] theorem ty_136 : ty 136 = some ⟨.sc, 1, 8, []⟩ := by kernel_rfl
@[go_sem] theorem ty_137 : ty 137 = some ⟨.sc, 1, 8, []⟩ := by kernel_rfl
@[go_sem] theorem ty_138 : ty 138 = some ⟨.st [(0, 3), (1, 3), (2, 47)], 3, 40, [.int .i64 0, .int .i64 0, .nl 158]⟩ := by kernel_rfl
@[go_sem] theorem Xgx : ty 139 = some ⟨.st [(0, 3), (1, 3), (2, 47)], 3, 40, [.int .i64 0, .int .i64 0, .nl 158]⟩ := by kernel_rfl
@[go_sem] theorem ty_140 : ty 140 = some ⟨.sc, 1, 8, []⟩ := by kernel_rfl
@[go_sem] theorem ty_141 : ty 141 = some ⟨.sc, 1, 8, []⟩ := by kernel_rfl
@[go_sem] theorem ty_142 : ty 142 = some ⟨.sc, 1, 8, []⟩ := by kernel_rfl
@[go_sem] theorem ty_143 : ty 143 = some ⟨.sc, 1, 8, []⟩ := by kernel_rfl
@[go_sem] theorem ty_144 : ty 144 = some ⟨.sc, 1, 8, []⟩ := by kernel_rfl
@[go_sem] theorem ty_145 : ty 145 = some ⟨.st [(0, 3), (1, 3), (2, 3)], 3, 24, [.int .i64 0, .int .i64 0, .int .i64 0]⟩ := by kernel_rfl
@[go_sem] theorem ty_146 : ty 146 = some ⟨.st [(0, 3), (1, 3), (2, 3)], 3, 24, [.int .i64 0, .int .i64 0, .int .i64 0]⟩ := by kernel_rfl
@[go_sem] theorem ty_148 : ty 148 = some ⟨.sc, 1, 8, []⟩ := by kernel_rfl
@[go_sem] theorem ty_149 : ty 149 = some ⟨.sc, 1, 8, []⟩ := by kernel_rfl
@[go_sem] theorem ty_150 : ty 150 = some ⟨.st [(0, 3), (1, 3), (2, 3)], 3, 24, [.int .i64 0, .int .i64 0, .int .i64 0]⟩ := by kernel_rfl
@[go_sem] theorem ty_151 : ty 151 = some ⟨.st [(0, 3), (1, 3), (2, 3)], 3, 24, [.int .i64 0, .int .i64 0, .int .i64 0]⟩ := by kernel_rfl
@[go_sem] theorem ty_152 : ty 152 = some ⟨.sc, 1, 8, []⟩ := by kernel_rfl
@[go_sem] theorem Xgv : ty 153 = some ⟨.st [(0, 3), (1, 3), (2, 3)], 3, 24, [.int .i64 0, .int .i64 0, .int .i64 0]⟩ := by kernel_rfl
@[go_sem] theorem ty_154 : ty 154 = some ⟨.sc, 1, 8, []⟩ := by kernel_rfl
@[go_sem] theorem ty_155 : ty 155 = some ⟨.sc, 1, 8, []⟩ := by kernel_rfl
@[go_sem] theorem Xg1 : ty 156 = some ⟨.st [(0, 3), (1, 3), (2, 3)], 3, 24, [.int .i64 0, .int .i64 0, .int .i64 0]⟩ := by kernel_rfl
@[go_sem] theorem ty_157 : ty 157 = some ⟨.sc, 1, 8, []⟩ := by kernel_rfl
@[go_sem] theorem Xhh : ty 158 = some ⟨.st [(0, 3), (1, 3), (2, 3), (3, 3), (4, 4)], 5, 40, [.int .i64 0, .int .i64 0, .int .i64 0, .int .i64 0, .bool false]⟩ := by kernel_rfl
@[go_sem] theorem ty_159 : ty 159 = some ⟨.st [(0, 3), (1, 3), (2, 3)], 3, 24, [.int .i64 0, .int .i64 0, .int .i64 0]⟩ := by kernel_rfl
@[go_sem] theorem ty_160 : ty 160 = some ⟨.st [(0, 3), (1, 3), (2, 3)], 3, 24, [.int .i64 0, .int .i64 0, .int .i64 0]⟩ := by kernel_rfl
@[go_sem] theorem ty_161 : ty 161 = some ⟨.sc, 1, 8, []⟩ := by kernel_rfl
@[go_sem] theorem Xhf : ty 162 = some ⟨.st [(0, 3), (1, 3), (2, 3)], 3, 24, [.int .i64 0, .int .i64 0, .int .i64 0]⟩ := by kernel_rfl
@[go_sem] theorem ty_163 : ty 163 = some ⟨.sc, 1, 8, []⟩ := by kernel_rfl
@[go_sem] theorem ty_164 : ty 164 = some ⟨.sc, 1, 8, []⟩ := by kernel_rfl
@[go_sem] theorem ty_165 : ty 165 = some ⟨.sc, 1, 8, []⟩ := by kernel_rfl
@[go_sem] theorem ty_166 : ty 166 = some ⟨.sc, 1, 8, []⟩ := by kernel_rfl
@[go_sem] theorem ty_167 : ty 167 = some ⟨.sc, 1, 8, []⟩ := by kernel_rfl
@[go_sem] theorem ty_168 : ty 168 = some ⟨.sc, 1, 8, []⟩ := by kernel_rfl
@[go_sem] theorem ty_170 : ty 170 = some ⟨.sc, 1, 8, []⟩ := by kernel_rfl
@[go_sem] theorem ty_171 : ty 171 = some ⟨.sc, 1, 8, []⟩ := by kernel_rfl
@[go_sem] theorem ty_172 : ty 172 = some ⟨.sc, 1, 8, []⟩ := by kernel_rfl
@[go_sem] theorem ty_173 : ty 173 = some ⟨.sc, 1, 8, []⟩ := by kernel_rfl
@[go_sem] theorem ty_174 : ty 174 = some ⟨.sc, 1, 8, []⟩ := by kernel_rfl
@[go_sem] theorem ty_175 : ty 175 = some ⟨.sc, 1, 8, []⟩ := by kernel_rfl
@[go_sem] theorem ty_176 : ty 176 = some ⟨.sc, 1, 8, []⟩ := by kernel_rfl
@[go_sem] theorem ty_177 : ty 177 = some ⟨.sc, 1, 8, []⟩ := by kernel_rfl
@[go_sem] theorem ty_178 : ty 178 = some ⟨.sc, 1, 8, []⟩ := by kernel_rfl
@[go_sem] theorem ty_179 : ty 179 = some ⟨.sc, 1, 8, []⟩ := by kernel_rfl
@[go_sem] theorem ty_180 : ty 180 = some ⟨.sc, 1, 8, []⟩ := by kernel_rfl
@[go_sem] theorem ty_181 : ty 181 = some ⟨.sc, 1, 8, []⟩ := by kernel_rfl
@[go_sem] theorem ty_182 : ty 182 = some ⟨.sc, 1, 8, []⟩ := by kernel_rfl
@[go_sem] theorem ty_183 : ty 183 = some ⟨.sc, 1, 8, []⟩ := by kernel_rfl
@[go_sem] theorem ty_184 : ty 184 = some ⟨.sc, 1, 8, []⟩ := by kernel_rfl
@[go_sem] theorem ty_185 : ty 185 = some ⟨.sc, 1, 8, []⟩ := by kernel_rfl
@[go_sem] theorem ty_186 : ty 186 = some ⟨.sc, 1, 8, []⟩ := by kernel_rfl
@[go_sem] theorem ty_187 : ty 187 = some ⟨.sc, 1, 8, []⟩ := by kernel_rfl
@[go_sem] theorem ty_188 : ty 188 = some ⟨.sc, 1, 8, []⟩ := by kernel_rfl
@[go_sem] theorem ty_190 : ty 190 = some ⟨.sc, 1, 8, []⟩ := by kernel_rfl
@[go_sem] theorem ty_192 : ty 192 = some ⟨.sc, 1, 8, []⟩ := by kernel_rfl
@[go_sem] theorem ty_193 : ty 193 = some ⟨.sc, 1, 8, []⟩ := by kernel_rfl
@[go_sem] theorem ty_194 : ty 194 = some ⟨.sc, 1, 8, []⟩ := by kernel_rfl
@[go_sem] theorem ty_195 : ty 195 = some ⟨.sc, 1, 8, []⟩ := by kernel_rfl
@[go_sem] theorem ty_196 : ty 196 = some ⟨.sc, 1, 8, []⟩ := by kernel_rfl
@[go_sem] theorem ty_197 : ty 197 = some ⟨.sc, 1, 8, []⟩ := by kernel_rfl
@[go_sem] theorem ty_198 : ty 198 = some ⟨.sc, 1, 8, []⟩ := by kernel_rfl
@[go_sem] theorem ty_199 : ty 199 = some ⟨.sc, 1, 8, []⟩ := by kernel_rfl
@[go_sem] theorem ty_201 : ty 201 = some ⟨.sc, 1, 8, []⟩ := by kernel_rfl
@[go_sem] theorem ty_202 : ty 202 = some ⟨.sc, 1, 8, []⟩ := by kernel_rfl
@[go_sem] theorem ty_204 : ty 204 = some ⟨.sc, 1, 8, []⟩ := by kernel_rfl
@[go_sem] theorem ty_205 : ty 205 = some ⟨.sc, 1, 8, []⟩ := by kernel_rfl
@[go_sem] theorem ty_206 : ty 206 = some ⟨.sc, 1, 8, []⟩ := by kernel_rfl
@[go_sem] theorem ty_207 : ty 207 = some ⟨.sc, 1, 8, []⟩ := by kernel_rfl
@[go_sem] theorem ty_208 : ty 208 = some ⟨.sc, 1, 8, []⟩ := by kernel_rfl
@[go_sem] theorem ty_209 : ty 209 = some ⟨.sc, 1, 8, []⟩ := by kernel_rfl
@[go_sem] theorem ty_210 : ty 210 = some ⟨.sc, 1, 8, []⟩ := by kernel_rfl
@[go_sem] theorem ty_211 : ty 211 = some ⟨.sc, 1, 8, []⟩ := by kernel_rfl
@[go_sem] theorem ty_212 : ty 212 = some ⟨.ar 6 3, 6, 48, [.int .i64 0, .int .i64 0, .int .i64 0, .int .i64 0, .int .i64 0, .int .i64 0]⟩ := by kernel_rfl
@[go_sem] theorem ty_213 : ty 213 = some ⟨.sc, 1, 8, []⟩ := by kernel_rfl
@[go_sem] theorem ty_214 : ty 214 = some ⟨.sc, 1, 8, []⟩ := by kernel_rfl
@[go_sem] theorem ty_215 : ty 215 = some ⟨.sc, 1, 8, []⟩ := by kernel_rfl
@[go_sem] theorem ty_216 : ty 216 = some ⟨.it .u64, 1, 8, [.int .u64 0]⟩ := by kernel_rfl
@[go_sem] theorem ty_217 : ty 217 = some ⟨.sc, 1, 8, []⟩ := by kernel_rfl
@[go_sem] theorem ty_218 : ty 218 = some ⟨.sc, 1, 8, []⟩ := by kernel_rfl
@[go_sem] theorem ty_219 : ty 219 = some ⟨.it .i64, 1, 8, [.int .i64 0]⟩ := by kernel_rfl
@[go_sem] theorem ty_221 : ty 221 = some ⟨.sc, 1, 8, []⟩ := by kernel_rfl
@[go_sem] theorem ty_222 : ty 222 = some ⟨.sc, 1, 8, []⟩ := by kernel_rfl
@[go_sem] theorem ty_223 : ty 223 = some ⟨.sc, 1, 8, []⟩ := by kernel_rfl
@[go_sem] theorem ty_225 : ty 225 = some ⟨.sc, 1, 8, []⟩ := by kernel_rfl
@[go_sem] theorem ty_226 : ty 226 = some ⟨.sc, 1, 8, []⟩ := by kernel_rfl
@[go_sem] theorem ty_227 : ty 227 = some ⟨.it .u32, 1, 4, [.int .u32 0]⟩ := by kernel_rfl
@[go_sem] theorem ty_228 : ty 228 = some ⟨.sc, 1, 8, []⟩ := by kernel_rfl
@[go_sem] theorem ty_229 : ty 229 = some ⟨.it .u64, 1, 8, [.int .u64 0]⟩ := by kernel_rfl
@[go_sem] theorem ty_230 : ty 230 = some ⟨.it .u64, 1, 8, [.int .u64 0]⟩ := by kernel_rfl
@[go_sem] theorem ty_231 : ty 231 = some ⟨.sc, 1, 8, []⟩ := by kernel_rfl
@[go_sem] theorem ty_232 : ty 232 = some ⟨.sc, 1, 8, []⟩ := by kernel_rfl
@[go_sem] theorem ty_233 : ty 233 = some ⟨.sc, 1, 8, []⟩ := by kernel_rfl
@[go_sem] theorem ty_234 : ty 234 = some ⟨.sc, 1, 8, []⟩ := by kernel_rfl
@[go_sem] theorem ty_235 : ty 235 = some ⟨.sc, 1, 8, []⟩ := by kernel_rfl
@[go_sem] theorem ty_236 : ty 236 = some ⟨.sc, 1, 8, []⟩ := by kernel_rfl
@[go_sem] theorem ty_237 : ty 237 = some ⟨.sc, 1, 8, []⟩ := by kernel_rfl
@[go_sem] theorem ty_238 : ty 238 = some ⟨.st [(0, 17), (1, 17), (2, 17), (3, 9)], 4, 40, []⟩ := by kernel_rfl
@[go_sem] theorem ty_239 : ty 239 = some ⟨.st [(0, 17), (1, 17), (2, 17), (3, 9)], 4, 40, []⟩ := by kernel_rfl
@[go_sem] theorem ty_240 : ty 240 = some ⟨.ar 0 16, 0, 0, []⟩ := by kernel_rfl
@[go_sem] theorem ty_241 : ty 241 = some ⟨.st [(0, 240)], 0, 0, []⟩ := by kernel_rfl
@[go_sem] theorem ty_242 : ty 242 = some ⟨.st [(0, 240)], 0, 0, []⟩ := by kernel_rfl
@[go_sem] theorem ty_243 : ty 243 = some ⟨.sc, 1, 8, []⟩ := by kernel_rfl
@[go_sem] theorem ty_244 : ty 244 = some ⟨.it .u8, 1, 1, [.int .u8 0]⟩ := by kernel_rfl
@[go_sem] theorem ty_245 : ty 245 = some ⟨.it .u8, 1, 1, [.int .u8 0]⟩ := by kernel_rfl
@[go_sem] theorem ty_246 : ty 246 = some ⟨.sc, 1, 8, []⟩ := by kernel_rfl
@[go_sem] theorem ty_247 : ty 247 = some ⟨.sc, 1, 8, []⟩ := by kernel_rfl
@[go_sem] theorem ty_248 : ty 248 = some ⟨.it .i32, 1, 4, [.int .i32 0]⟩ := by kernel_rfl
@[go_sem] theorem ty_249 : ty 249 = some ⟨.it .i32, 1, 4, [.int .i32 0]⟩ := by kernel_rfl
@[go_sem] theorem ty_250 : ty 250 = some ⟨.st [(0, 12), (1, 12), (2, 227), (3, 244), (4, 5), (5, 5), (6, 245), (7, 246), (8, 247), (9, 248), (10, 249)], 11, 48, []⟩ := by kernel_rfl
@[go_sem] theorem ty_251 : ty 251 = some ⟨.st [(0, 12), (1, 12), (2, 227), (3, 244), (4, 5), (5, 5), (6, 245), (7, 246), (8, 247), (9, 248), (10, 249)], 11, 48, []⟩ := by kernel_rfl
@[go_sem] theorem ty_252 : ty 252 = some ⟨.sc, 1, 8, []⟩ := by kernel_rfl
theorem tyAll : (tyL.all fun p => chkT Tryz.prog p.1 p.2) = true := by kernel_rfl
theorem hT : Qeo Tryz.prog ty := by
  intro t d h
  unfold ty at h
  cases hf : tyL.find? (fun p => Nat.beq p.1 t) with
  | none => rw [hf] at h; cases h
  | some p =>
    rw [hf] at h
    simp only [Option.map_some, Option.some.injEq] at h
    subst h
    have h1 := List.find?_some hf
    have h2 := List.all_eq_true.1 tyAll p (List.mem_of_find?_eq_some hf)
    have e : p.1 = t := Nat.eq_of_beq_eq_true h1
    rw [← e]
    exact Xcc h2
theorem hM : Tryz.prog.follows .mixedOrders = true := by kernel_rfl
section
variable {E : Env} {rest : List Oper} {K : St → Prop} {tm : Nat → VV} {H : Qbi} {nx N : Nat} {lim : Option Nat} {s : St}
theorem wHb : (∀ (p : Prop) [Decidable p], (decide p = true) = p) ∧ (∀ (p : Prop) [Decidable p], (decide p = false) ↔ ¬ p) ∧ (∀ {α : Type} [BEq α] [LawfulBEq α] {a b : α}, (a != b) = true ↔ a ≠ b) ∧ (∀ {α : Type} (a b : α), (a ≠ b) = ¬ a = b) ∧ (∀ {b : Bool}, ((!b) = true) = (b = false)) ∧ (∀ {b : Bool}, ((!b) = false) = (b = true)) ∧ ((true = false) = False) ∧ ((false = true) = False) ∧ ((¬ True) = False) ∧ (∀ {α : Type} (a : α), (a = a) = True) :=
  ⟨@decide_eq_true_eq, @decide_eq_false_iff_not, @bne_iff_ne, @ne_eq.{1}, by simp, by simp, by simp, by simp, by simp, @eq_self.{1}⟩
theorem wSq {a b : Code} {Q : Exit → St → Prop} (h : ∀ K : St → Prop, (∀ s, VWP Tryz.prog E b Q s → K s) → VWP Tryz.prog E a (Qbm K Q) s) : VWP Tryz.prog E (.seq a b) Q s := Qjg h
theorem wRg {id : Nat} {l : List Oper} {Q : Exit → St → Prop} (h : Qb5 Tryz.prog ty l.toArray l s (Q .normal)) : VWP Tryz.prog E (.region id l.toArray false) Q s := Qf2 hT h
theorem wDr {id : Nat} {l : List Oper} {Q : Exit → St → Prop} (h : Qbn Tryz.prog ty l.toArray l 0 nx ⟨tm, H, nx, N, none⟩ (Q .normal)) (hok : Qv3 l.toArray = true := by kernel_rfl) : VWP Tryz.prog E (.region id l.toArray true) Q ⟨tm, H, nx, N, none⟩ := Qh3 hT hM hok rfl h
theorem wLf {u : Nat} {x v : VV} (he : x = v) (hs : Qtd v = true := by rfl) (h : tm u = x := by simp only [go_sem]; rfl) : Qbk Tryz.prog ty [.tmp u] v [] ⟨tm, H, nx, N, lim⟩ := Qld h hs he
theorem wCd {c : Operand} {a b : Code} {Q : Exit → St → Prop} {v : Bool} (h1 : v = true → VWP Tryz.prog E a Q s) (h2 : v = false → VWP Tryz.prog E b Q s) (hc : ev s c = .bool v := by simp only [go_sem, F]; rfl) : VWP Tryz.prog E (.cond c a b) Q s := Qaz v hc h1 h2
theorem wGd {ops : Array Oper} {o : Oper} {b c : Bool} {u : Nat} {v : VV} (h1 : c = true → Qa3 Tryz.prog ty ops o b rest ⟨Qbo u (.bool true) tm, H, nx, N, lim⟩ K u (.bool true)) (h2 : c = false → Qa3 Tryz.prog ty ops o b rest ⟨Qbo u (.bool false) tm, H, nx, N, lim⟩ K u (.bool false)) (h0 : tm u = v := by simp only [go_sem, F]) (h : v = .bool c := by rfl) :
    Qa3 Tryz.prog ty ops o b rest ⟨tm, H, nx, N, lim⟩ K u v := Qfq h0 h h1 h2
theorem wCa {f : FuncId} {args : List VV} {dd : Nat} {v : VV} {l : List (TypeId × List (List PT))} (hok : ∀ x ∈ args, Qgm H x := by simp only [go_sem, F, List.mem_cons, List.not_mem_nil, or_false, forall_eq_or_imp, forall_eq, Qgm, Qdm] <;> try simp) {args' : List VV} (ha : args.map (Qnd H) = args' := by simp only [go_sem, F, Qnd, Qlk] <;> try rfl) (c : SatP Tryz.prog f args' v l) (hr : (⟨tm, H, nx, N, lim⟩ : St).room l.length = true := by simp only [go_sem, F] <;> try simp)
    (hd : dd < N := by decide) (k : K ⟨Qbo dd (shV nx v) tm, Qs3 nx l H, nx + l.length, N, lim⟩) : Qbj Tryz.prog f args ⟨tm, H, nx, N, lim⟩ (some dd) K := Xdf hok ha c hr hd k
theorem wOw {f : FuncId} {args : List VV} {dd : Nat} {v : VV} {O : List Ent} (σ : List Nat) (hn : σ.Nodup := by simp) (h1 : ∀ T ∈ σ, Qew σ H (H T) := by simp only [go_sem, F, List.mem_cons, List.not_mem_nil, or_false, forall_eq_or_imp, forall_eq, Qew, Qd0] <;> try simp) (h2 : ∀ x ∈ args, Qhl σ H x := by simp only [go_sem, F, List.mem_cons, List.not_mem_nil, or_false, forall_eq_or_imp, forall_eq, Qhl, Qd0, Qgm, Qdm] <;> try simp) {args' : List VV} (ha : args.map (Qpj σ H) = args' := by simp only [go_sem, F, Qnd, Qlk] <;> try rfl) {I : List Ent} (hI : (σ.map fun T => Qeq σ H (H T)) = I := by simp only [go_sem, F] <;> try rfl)
    (c : SatO Tryz.prog f args' I v O) (hd : dd < N := by decide) (k : K ⟨Qbo dd (bkV σ nx v) tm, Qqx (bkE σ nx) σ nx O H, nx + (O.length - σ.length), N, none⟩) : Qbj Tryz.prog f args ⟨tm, H, nx, N, none⟩ (some dd) K := Xc3 σ hn h1 h2 ha hI c hd k
theorem Qcf {c : Operand} {a b : Code} {Q : Exit → St → Prop} {v : Bool} (h1 : v = true → VWP Tryz.prog E a Q s) (h2 : v = false → VWP Tryz.prog E b Q s) (hc : ev s c = .bool v := by simp only [go_sem, Int.reduceBEq, Int.reduceBNe, Int.reduceLT, Int.reduceLE, Int.reduceAdd, Int.reduceToNat, F]; rfl) : VWP Tryz.prog E (.cond c a b) Q s := Qaz v hc h1 h2
theorem Qcc {ops : Array Oper} {o : Oper} {b c : Bool} {u : Nat} {v : VV} (h1 : c = true → Qa3 Tryz.prog ty ops o b rest ⟨Qbo u (.bool true) tm, H, nx, N, lim⟩ K u (.bool true)) (h2 : c = false → Qa3 Tryz.prog ty ops o b rest ⟨Qbo u (.bool false) tm, H, nx, N, lim⟩ K u (.bool false)) (h0 : tm u = v := by simp only [go_sem, Int.reduceBEq, Int.reduceBNe, Int.reduceLT, Int.reduceLE, Int.reduceAdd, Int.reduceToNat, F]) (h : v = .bool c := by rfl) :
    Qa3 Tryz.prog ty ops o b rest ⟨tm, H, nx, N, lim⟩ K u v := Qfq h0 h h1 h2
theorem Qgs {f : FuncId} {args : List VV} {dd : Nat} {v : VV} {l : List (TypeId × List (List PT))} (hok : ∀ x ∈ args, Qgm H x := by simp only [go_sem, Int.reduceBEq, Int.reduceBNe, Int.reduceLT, Int.reduceLE, Int.reduceAdd, Int.reduceToNat, F, List.mem_cons, List.not_mem_nil, or_false, forall_eq_or_imp, forall_eq, Qgm, Qdm] <;> try simp) {args' : List VV} (ha : args.map (Qnd H) = args' := by simp only [go_sem, Int.reduceBEq, Int.reduceBNe, Int.reduceLT, Int.reduceLE, Int.reduceAdd, Int.reduceToNat, F, Qnd, Qlk] <;> try rfl) (c : SatP Tryz.prog f args' v l) (hr : (⟨tm, H, nx, N, lim⟩ : St).room l.length = true := by simp only [go_sem, Int.reduceBEq, Int.reduceBNe, Int.reduceLT, Int.reduceLE, Int.reduceAdd, Int.reduceToNat, F] <;> try simp)
    (hd : dd < N := by decide) (k : K ⟨Qbo dd (shV nx v) tm, Qs3 nx l H, nx + l.length, N, lim⟩) : Qbj Tryz.prog f args ⟨tm, H, nx, N, lim⟩ (some dd) K := Xdf hok ha c hr hd k
theorem Xgr {f : FuncId} {args : List VV} {dd : Nat} {v : VV} {O : List Ent} (σ : List Nat) (hn : σ.Nodup := by simp) (h1 : ∀ T ∈ σ, Qew σ H (H T) := by simp only [go_sem, Int.reduceBEq, Int.reduceBNe, Int.reduceLT, Int.reduceLE, Int.reduceAdd, Int.reduceToNat, F, List.mem_cons, List.not_mem_nil, or_false, forall_eq_or_imp, forall_eq, Qew, Qd0] <;> try simp) (h2 : ∀ x ∈ args, Qhl σ H x := by simp only [go_sem, Int.reduceBEq, Int.reduceBNe, Int.reduceLT, Int.reduceLE, Int.reduceAdd, Int.reduceToNat, F, List.mem_cons, List.not_mem_nil, or_false, forall_eq_or_imp, forall_eq, Qhl, Qd0, Qgm, Qdm] <;> try simp) {args' : List VV} (ha : args.map (Qpj σ H) = args' := by simp only [go_sem, Int.reduceBEq, Int.reduceBNe, Int.reduceLT, Int.reduceLE, Int.reduceAdd, Int.reduceToNat, F, Qnd, Qlk] <;> try rfl) {I : List Ent} (hI : (σ.map fun T => Qeq σ H (H T)) = I := by simp only [go_sem, Int.reduceBEq, Int.reduceBNe, Int.reduceLT, Int.reduceLE, Int.reduceAdd, Int.reduceToNat, F] <;> try rfl)
    (c : SatO Tryz.prog f args' I v O) (hd : dd < N := by decide) (k : K ⟨Qbo dd (bkV σ nx v) tm, Qqx (bkE σ nx) σ nx O H, nx + (O.length - σ.length), N, none⟩) : Qbj Tryz.prog f args ⟨tm, H, nx, N, none⟩ (some dd) K := Xc3 σ hn h1 h2 ha hI c hd k
end
theorem wNl {X : Type} {tl : X → List (Nat × VV)} {hl : X → List (Nat × Ent)} {μ : X → Nat} {J : X → Prop} {B N : Nat} {x : X} {s : St} (h : Qbq tl hl μ J B N x s) : Qbq tl hl μ J B N x s := h
theorem wNo {P : Program} {ty : Ty} {rs : List ResultVar} {m : Nat} {v : VV} {O : List Ent} {s : St} (h : Qc4 P ty rs m v O s) : Qc4 P ty rs m v O s := h
theorem wNr {P : Program} {ty : Ty} {rs : List ResultVar} {v : VV} {l : List (TypeId × List (List PT))} {s : St} (h : Qbk P ty rs v l s) : Qbk P ty rs v l s := h
theorem wwA {a b : Prop} (x : a) (y : b) : a ∧ b := ⟨x, y⟩
theorem ww1 {p q : Prop} (h : q) (e : q → p := by first | exact fun h => wRg h | exact fun h => wDr h | exact fun h => Qjx h | exact fun h => Qlc h | exact fun h => Qlm h | exact fun h => Qpo h) : p := e h
theorem ww3 {p q : Prop} (h : q) (e : p = q := by simp only [go_sem, F]; rfl) : p := e ▸ h
theorem Qce {p q : Prop} (h : q) (e : p = q := by simp only [go_sem, Int.reduceBEq, Int.reduceBNe, Int.reduceLT, Int.reduceLE, Int.reduceAdd, Int.reduceToNat, F]; rfl) : p := e ▸ h
theorem ww4 {p q : Prop} (h : q) (e : p = q := by simp (disch := omega) only [decide_eq_true_eq, if_pos, if_neg, Qax, Qdn, and_true, true_and, if_true, ite_true]; rfl) : p := e ▸ h
theorem wwN {p q : Prop} (h : q) (e : q → p := by first | exact fun h => wNn h | exact fun h => wNo h | exact fun h => wNl h | exact fun h => wNr h) : p := e h
theorem wRo {rs : List ResultVar} {m : Nat} {vs : List VV} {v : VV} {O K2 : List Ent} {acc acc1 : List Out} {H H' : Qbi} {tm : Nat → VV} {nx N : Nat} {lim : Option Nat} (ms : List (Nat × Nat × Nat)) (Ks : List Ent) (h0 : Qb1 ms H = some H' := by rfl) (h1 : Ks.length = m := by rfl)
    (h2 : Qbx 0 Ks H' := by (simp only [Qbx]; repeat' first | exact trivial | refine And.intro ?_ ?_ | ((simp only [go_sem, F] <;> try rfl) <;> fail) | rfl)) (h3 : Qu3 m H' Ks [] = some (K2, acc1) := by ((simp only [go_sem, F, Qu3, Qky, Qov, Nat.le_refl] <;> try rfl) <;> fail))
    (h4 : Qcd ty ⟨tm, H, nx, N, lim⟩ rs = some vs := by ((simp only [go_sem, Qcd] <;> try rfl) <;> fail)) (h5 : Qtw m H' (wrap vs) acc1 = some (v, acc) := by ((simp only [go_sem, F, wrap, Qtw, Qto, Qtx, Qky, Qov, Nat.le_refl] <;> try rfl) <;> fail)) (h6 : (acc.filterMap (·.1)).Nodup := by simp)
    (h7 : K2 ++ acc.map Qcz = O := by (simp [Qcz, F] <;> try rfl) <;> fail) : Qc4 Tryz.prog ty rs m v O ⟨tm, H, nx, N, lim⟩ := Qbf ms h0 Ks h1 h2 h3 h4 h5 h6 h7
theorem wEo {f : FuncId} {fn : Func} {c : Code} {args : List VV} {I : List Ent} {v : VV} {O : List Ent} (hf : Tryz.prog.funcs[f]? = some fn) (rs : List ResultVar) (n m : Nat) (hk : Qbc I O) (hb : ∀ E, Qrb E m → VWP Tryz.prog E c (Qbr Tryz.prog ty rs m v O) ⟨fun t => (args[t]?).getD .any, HpE I, m, n, none⟩)
    (h1 : (fn.name == "runtime.NumGoroutine") = false := by kernel_rfl) (h2 : fn.body = some c := by rfl) (h3 : fn.results.toList = rs := by rfl) (h4 : fn.ntmps = n := by rfl) (h5 : args.length ≤ n := by simp) (h6 : Qys v = true := by rfl) (h7 : I.length = m := by rfl) : SatO Tryz.prog f args I v O := Qrm hT hf h1 h2 h3 h4 h5 h6 h7 hk hb
theorem wEp {f : FuncId} {fn : Func} {c : Code} {args : List VV} {v : VV} {l : List (TypeId × List (List PT))} (hf : Tryz.prog.funcs[f]? = some fn) (rs : List ResultVar) (n : Nat) (hb : ∀ E, Qrb E 0 → VWP Tryz.prog E c (Qdb Tryz.prog ty rs v l) ⟨fun t => (args[t]?).getD .any, fun _ => .dead, 0, n, none⟩)
    (hp : ∀ x ∈ l, Qbb x.2 := by simp) (h1 : (fn.name == "runtime.NumGoroutine") = false := by kernel_rfl) (h2 : fn.body = some c := by rfl) (h3 : fn.results.toList = rs := by rfl) (h4 : fn.ntmps = n := by rfl) (h5 : args.length ≤ n := by simp) (h6 : Qys v = true := by rfl) : SatP Tryz.prog f args v l := Qsn hT hf h1 h2 h3 h4 h5 h6 hp hb
theorem wK {P Q : St → Prop} {s : St} (h : Q s) (e : ∀ s, Q s → P s := by assumption) : P s := e s h
end Go.Proofs.YtmiojnibngncaaaGreat
namespace Go.Proofs.YtmiojnibngncaaaGreat
open Go Go.RowKit
set_option linter.unusedVariables false
set_option linter.unusedSimpArgs false
def arF (n s : Nat) (e : TypeId) : List (Nat × TypeId) := (List.range n).map fun i => (i * s, e)
mutual
def PTy (ty : Ty) : Nat → TypeId → List PT → Prop
  | 0, _, _ => False
  | f + 1, t, cells => match ty t with
    | some ⟨.it k, _, _, _⟩ => ∃ n, cells = [.int k n] ∧ k.min ≤ n ∧ n ≤ k.max
    | some ⟨.bo, _, _, _⟩ => ∃ b, cells = [.bool b]
    | some ⟨.ss, _, _, _⟩ => ∃ s, cells = [.str s] ∧ s.size ≤ maxLen
    | some ⟨.sl e, _, _, _⟩ => ∃ rows, cells = [.list e rows] ∧ rows.length ≤ maxLen ∧ ∀ r ∈ rows, PTy ty f e r
    | some ⟨.st fs, _, _, _⟩ => Qxx ty f fs cells
    | some ⟨.ar n e, _, _, _⟩ => Qxx ty f (arF n (Qb3 ty e) e) cells
    | _ => False
def Qxx (ty : Ty) : Nat → List (Nat × TypeId) → List PT → Prop
  | _, [], cells => cells = []
  | f, x :: fs, cells => ∃ a b, cells = a ++ b ∧ PTy ty f x.2 a ∧ Qxx ty f fs b
end
section
variable {ty : Ty} {f : Nat} {t : TypeId} {cells : List PT} {a b : Nat} {z : List VV}
theorem Qpa {k : IntKind} (h : ty t = some ⟨.it k, a, b, z⟩) : PTy ty (f + 1) t cells = ∃ n, cells = [.int k n] ∧ k.min ≤ n ∧ n ≤ k.max := by simp only [PTy, h]
theorem Xhy (h : ty t = some ⟨.bo, a, b, z⟩) : PTy ty (f + 1) t cells = ∃ b, cells = [.bool b] := by simp only [PTy, h]
theorem Qor {e : TypeId} (h : ty t = some ⟨.sl e, a, b, z⟩) : PTy ty (f + 1) t cells = ∃ rows, cells = [.list e rows] ∧ rows.length ≤ maxLen ∧ ∀ r ∈ rows, PTy ty f e r := by simp only [PTy, h]
theorem Qmy {fs : List (Nat × TypeId)} (h : ty t = some ⟨.st fs, a, b, z⟩) : PTy ty (f + 1) t cells = Qxx ty f fs cells := by simp only [PTy, h]
theorem Xhd {n e : Nat} (h : ty t = some ⟨.ar n e, a, b, z⟩) : PTy ty (f + 1) t cells = Qxx ty f (arF n (Qb3 ty e) e) cells := by simp only [PTy, h]
theorem Qgv : Qxx ty f [] cells = (cells = []) := by simp only [Qxx]
theorem Qfr {x : Nat × TypeId} {fs : List (Nat × TypeId)} : Qxx ty f (x :: fs) cells = ∃ a b, cells = a ++ b ∧ PTy ty f x.2 a ∧ Qxx ty f fs b := by simp only [Qxx]
end
def Qof (ty : Ty) : Nat → List (Nat × TypeId) → Nat → Bool
  | off, [], n => off == n
  | off, x :: fs, n => x.1 == off && (ty x.2).isSome && Qof ty (off + Qb3 ty x.2) fs n
def Qi6 (ty : Ty) : Nat → TypeId → Bool
  | 0, _ => false
  | f + 1, t => match ty t with
    | some ⟨.it _, n, _, _⟩ => n == 1
    | some ⟨.bo, n, _, _⟩ => n == 1
    | some ⟨.ss, n, _, _⟩ => n == 1
    | some ⟨.sl e, n, _, _⟩ => n == 1 && Qb3 ty e != 0 && Qi6 ty f e
    | some ⟨.st fs, n, _, _⟩ => Qof ty 0 fs n && fs.all fun x => Qi6 ty f x.2
    | some ⟨.ar m e, n, _, _⟩ => Qof ty 0 (arF m (Qb3 ty e) e) n && Qi6 ty f e
    | _ => false
section
variable {P : Program} {W : World} {ty : Ty} {H : Type} {enc : TypeId × Value → H} {sp : Nat → Bool} {held : Bool}
theorem Xge {e : TypeId} {rows : List (List PT)} {a : Addr} {cap : Nat} (hcap : rows.length ≤ cap) (hmax : cap ≤ maxLen) (hsz : 0 < P.cellsOf e)
    (h : ∀ (i : Nat) (r : List PT), rows[i]? = some r → r.length = P.cellsOf e ∧ ∀ (j : Nat) (c : PT), r[j]? = some c → ∃ u, W.cell? ((a.add (i * P.cellsOf e)).add j) = some u ∧ Rd P (Qcv W) c u) :
    Rd P (Qcv W) (.list e rows) (.slice (some a) rows.length cap) := by
  have hex : ∀ x : Nat × Nat, ∃ f : Qk6 → Value, ∀ (r : List PT) (c : PT), rows[x.1]? = some r → r[x.2]? = some c → ∃ u, W.cell? ((a.add (x.1 * P.cellsOf e)).add x.2) = some u ∧ Qxv c (f []) u ∧
      ∀ e2 rows2, c = .list e2 rows2 → ∀ p e' rows', At p c = some (e', rows') → Qow P (Qcv W) e' rows' (fun i j => f (p ++ [(i, j)])) (f p) := by
    intro x
    cases hr : rows[x.1]? with
    | none => exact ⟨fun _ => undef, fun r c h1 => by cases h1⟩
    | some r =>
      cases hc : r[x.2]? with
      | none => exact ⟨fun _ => undef, fun r' c h1 h2 => by cases h1; rw [hc] at h2; cases h2⟩
      | some c =>
        obtain ⟨u, hu, hrd⟩ := (h x.1 r hr).2 x.2 c hc
        by_cases hl : ∃ e2 rows2, c = .list e2 rows2
        · obtain ⟨e2, rows2, rfl⟩ := hl
          obtain ⟨fh, h1, h2⟩ := hrd
          refine ⟨fh, fun r' c' h3 h4 => ?_⟩
          cases h3
          rw [hc] at h4
          cases h4
          exact ⟨u, hu, h1.symm, fun _ _ _ => h2⟩
        · refine ⟨fun _ => undef, fun r' c' h3 h4 => ?_⟩
          cases h3
          rw [hc] at h4
          cases h4
          refine ⟨u, hu, ?_, fun e2 rows2 hh => absurd ⟨e2, rows2, hh⟩ hl⟩
          cases c <;> first | exact hrd | exact absurd ⟨_, _, rfl⟩ hl
  obtain ⟨F, hF⟩ := Classical.axiomOfChoice hex
  refine ⟨fun p => match p with | [] => .slice (some a) rows.length cap | x :: q => F x q, rfl, fun p e' rows' hat => ?_⟩
  cases p with
  | nil =>
    simp only [At, Option.some.injEq, Prod.mk.injEq] at hat
    obtain ⟨rfl, rfl⟩ := hat
    refine ⟨some a, cap, rfl, hcap, hmax, ?_⟩
    cases hrows : rows with
    | nil => exact .inl rfl
    | cons r0 rest =>
      rw [hrows] at h hF
      have h0 := (h 0 r0 rfl)
      have hspot : a.spot = none ∧ ∀ k, a.add k = ⟨a.block, a.off + k, none⟩ := by
        have hlt : 0 < r0.length := by rw [h0.1]; exact hsz
        obtain ⟨u, hu, _⟩ := h0.2 0 _ (List.getElem?_eq_getElem hlt)
        have hs := World.cell?_spot hu
        have : a.spot = none := by
          rw [Nat.zero_mul] at hs
          simpa [Addr.add] using hs
        refine ⟨this, fun k => ?_⟩
        cases a with
        | mk b o s =>
          simp only at this
          subst this
          exact Qgx b o k
      refine .inr ⟨a.block, a.off, by cases a; simp_all, fun i r hr => ?_⟩
      obtain ⟨h1, h2⟩ := h i r hr
      refine ⟨h1, fun j c hc => ?_⟩
      obtain ⟨u, h3, h4, _⟩ := hF (i, j) r c hr hc
      have hadd : (a.add (i * P.cellsOf e)).add j = ⟨a.block, a.off + (i * P.cellsOf e + j), none⟩ := by
        rw [hspot.2, Qgx, Nat.add_assoc]
      rw [hadd] at h3
      refine ⟨u, ⟨?_, fun h => h, h3⟩, h4⟩
      unfold World.cell? at h3
      split at h3
      · rename_i hh; exact (Array.getElem?_eq_some_iff.1 hh).1
      · cases h3
  | cons x q =>
    obtain ⟨i, j⟩ := x
    simp only [At] at hat
    cases hr : rows[i]? with
    | none => rw [hr] at hat; simp at hat
    | some r =>
      rw [hr] at hat
      simp only [Option.getD_some] at hat
      cases hc : r[j]? with
      | none => rw [hc] at hat; simp at hat
      | some c =>
        rw [hc] at hat
        simp only [Option.bind_some] at hat
        obtain ⟨u, h3, h4, h5⟩ := hF (i, j) r c hr hc
        cases c with
        | list e2 rows2 => exact h5 e2 rows2 rfl q e' rows' hat
        | _ => cases q <;> simp [At] at hat
def Qz1 (P : Program) (W : World) (ty : Ty) (n : Nat) (t : TypeId) (cs : List Value) : Prop :=
  ∃ cells : List PT, cells.length = cs.length ∧ cs.length = Qb3 ty t ∧ PTy ty n t cells ∧ ∀ (j : Nat) (c : PT) (u : Value), cells[j]? = some c → cs[j]? = some u → Rd P (Qcv W) c u
theorem Qhy {n : Nat} {t : TypeId} {c : PT} {u : Value} (hs : Qb3 ty t = 1) (hp : PTy ty n t [c]) (hr : Rd P (Qcv W) c u) : Qz1 P W ty n t [u] := by
  refine ⟨[c], rfl, by rw [hs]; rfl, hp, fun j c' u' hc hu => ?_⟩
  cases j with
  | zero => simp only [List.getElem?_cons_zero, Option.some.injEq] at hc hu; subst hc; subst hu; exact hr
  | succ j => simp at hc
theorem Qhj {n : Nat} {cs : List Value} : ∀ (fs : List (Nat × TypeId)) (off : Nat), Qof ty off fs cs.length = true → off ≤ cs.length → (∀ x ∈ fs, Qz1 P W ty n x.2 ((cs.drop x.1).take (Qb3 ty x.2))) →
    ∃ cells : List PT, off + cells.length = cs.length ∧ Qxx ty n fs cells ∧ ∀ (j : Nat) (c : PT) (u : Value), cells[j]? = some c → cs[off + j]? = some u → Rd P (Qcv W) c u
  | [], off, hc, hle, _ => by
    simp only [Qof, beq_iff_eq] at hc
    exact ⟨[], by simp [hc], by simp [Qxx], fun j c u h => by simp at h⟩
  | x :: fs, off, hc, hle, h => by
    simp only [Qof, Bool.and_eq_true, beq_iff_eq] at hc
    obtain ⟨⟨h1, h2⟩, h3⟩ := hc
    obtain ⟨a, a1, a2, a3, a4⟩ := h x (List.mem_cons_self ..)
    have hle2 : off + Qb3 ty x.2 ≤ cs.length := by
      simp only [List.length_take, List.length_drop, h1] at a2
      omega
    obtain ⟨b, b1, b2, b3⟩ := Qhj fs (off + Qb3 ty x.2) h3 hle2 fun y hy => h y (List.mem_cons_of_mem _ hy)
    refine ⟨a ++ b, by simp only [List.length_append]; omega, by simp only [Qxx]; exact ⟨a, b, rfl, a3, b2⟩, fun j c u hc hu => ?_⟩
    rw [List.getElem?_append] at hc
    split at hc
    · rename_i hj
      refine a4 j c u hc ?_
      rw [List.getElem?_take, if_pos (by omega), List.getElem?_drop, h1]
      exact hu
    · rename_i hj
      refine b3 (j - a.length) c u hc ?_
      rw [← hu]
      congr 1
      omega
theorem Qjw (hT : Qeo P ty) : ∀ (n : Nat) (t : TypeId) (fuel : Nat) (cs : List Value) (x : DataW H × List MemPlace), Qi6 ty n t = true → DataW.trod enc P W 0 sp held fuel t cs = some x → Qz1 P W ty n t cs
  | 0, _, _, _, _, hp, _ => by cases hp
  | n + 1, t, 0, cs, x, hp, h => by simp [DataW.trod] at h
  | n + 1, t, fuel + 1, cs, x, hp, h => by
    unfold Qi6 at hp
    split at hp
    · rename_i k n' b z ht
      have hu : P.underlying t = some (.int k) := (hT t _ ht).desc
      have hs : Qb3 ty t = 1 := by simp only [Qb3, ht]; simpa using hp
      match cs, h with
      | [], h => simp [DataW.trod, hu] at h
      | v :: v2 :: rest, h => cases v <;> simp [DataW.trod, hu] at h
      | [v], h =>
        cases v <;> try (simp [DataW.trod, hu] at h; done)
        rename_i k' m
        simp only [DataW.trod, hu] at h
        split at h
        · rename_i hk
          obtain ⟨rfl, hwf⟩ := hk
          simp only [Lit.wf, Bool.and_eq_true, decide_eq_true_eq] at hwf
          exact Qhy (c := .int k' m) hs (by simp only [PTy, ht]; exact ⟨m, rfl, hwf⟩) rfl
        · cases h
    · rename_i n' b z ht
      have hu : P.underlying t = some .bool := (hT t _ ht).desc
      have hs : Qb3 ty t = 1 := by simp only [Qb3, ht]; simpa using hp
      match cs, h with
      | [], h => simp [DataW.trod, hu] at h
      | v :: v2 :: rest, h => cases v <;> simp [DataW.trod, hu] at h
      | [v], h =>
        cases v <;> try (simp [DataW.trod, hu] at h; done)
        rename_i m
        exact Qhy (c := .bool m) hs (by simp only [PTy, ht]; exact ⟨m, rfl⟩) rfl
    · rename_i n' b z ht
      have hu : P.underlying t = some .string := (hT t _ ht).desc
      have hs : Qb3 ty t = 1 := by simp only [Qb3, ht]; simpa using hp
      match cs, h with
      | [], h => simp [DataW.trod, hu] at h
      | v :: v2 :: rest, h => cases v <;> simp [DataW.trod, hu] at h
      | [v], h =>
        cases v <;> try (simp [DataW.trod, hu] at h; done)
        rename_i m
        simp only [DataW.trod, hu] at h
        split at h
        · rename_i hk
          exact Qhy (c := .str m) hs (by simp only [PTy, ht]; exact ⟨m, rfl, hk⟩) rfl
        · cases h
    · rename_i e n' b z ht
      have hu : P.underlying t = some (.slice e) := (hT t _ ht).desc
      simp only [Bool.and_eq_true, bne_iff_ne, ne_eq, beq_iff_eq] at hp
      obtain ⟨⟨hp1, hp2⟩, hp3⟩ := hp
      have hs : Qb3 ty t = 1 := by simp only [Qb3, ht]; exact hp1
      obtain ⟨de, hde, hsz⟩ := Qer hT hp2
      have hce : P.cellsOf e = Qb3 ty e := by rw [(hT e de hde).cells, hsz]
      match cs, h with
      | [], h => simp [DataW.trod, hu] at h
      | v :: v2 :: rest, h => cases v <;> simp [DataW.trod, hu] at h
      | [v], h =>
        cases v <;> try (simp [DataW.trod, hu] at h; done)
        rename_i A len cap
        cases A with
        | none =>
          cases len with
          | succ l => simp [DataW.trod, hu] at h
          | zero =>
            cases cap with
            | succ l => simp [DataW.trod, hu] at h
            | zero =>
              refine Qhy (c := .list e []) hs (by simp only [PTy, ht]; exact ⟨[], rfl, by simp, fun r hr => by simp at hr⟩) ?_
              refine ⟨fun _ => .slice none 0 0, rfl, fun p e' rows' hat => ?_⟩
              cases p with
              | nil =>
                simp only [At, Option.some.injEq, Prod.mk.injEq] at hat
                obtain ⟨rfl, rfl⟩ := hat
                exact ⟨none, 0, rfl, by simp, by simp [maxLen], .inl rfl⟩
              | cons x q => obtain ⟨i, j⟩ := x; simp [At] at hat
        | some a =>
          simp only [DataW.trod, hu] at h
          split at h
          · rename_i hk
            obtain ⟨_, hk1, hk2⟩ := hk
            cases hm : (List.range len).mapM fun i => (W.cells? 0 (a.add (i * P.cellsOf e)) (P.cellsOf e)).bind (DataW.trod enc P W 0 sp held fuel e) with
            | none => rw [hm] at h; simp at h
            | some elems =>
              have hel : ∀ i, ∃ r : List PT, i < len → r.length = P.cellsOf e ∧ PTy ty n e r ∧ ∀ (j : Nat) (c : PT), r[j]? = some c → ∃ u, W.cell? ((a.add (i * P.cellsOf e)).add j) = some u ∧ Rd P (Qcv W) c u := by
                intro i
                by_cases hi : i < len
                · have h1 := mapM_some_get hm i i (by simp [hi])
                  have hlen := mapM_some_length hm
                  have hlt : i < elems.length := by simpa [hlen] using hi
                  rw [List.getElem?_eq_getElem hlt] at h1
                  rw [Option.bind_eq_some_iff] at h1
                  obtain ⟨ci, h2, h3⟩ := h1
                  obtain ⟨cells, k1, k2, k3, k4⟩ := Qjw hT n e fuel ci _ hp3 h3
                  obtain ⟨_, m1, m2⟩ := World.cells?_some h2
                  refine ⟨cells, fun _ => ⟨by rw [k1, m1], k3, fun j c hc => ?_⟩⟩
                  have hj : j < ci.length := by rw [← k1]; exact (List.getElem?_eq_some_iff.1 hc).1
                  refine ⟨ci[j], ?_, k4 j c _ hc (List.getElem?_eq_getElem hj)⟩
                  rw [m2 j (by omega), List.getElem?_eq_getElem hj]
                · exact ⟨[], fun hh => absurd hh hi⟩
              obtain ⟨R, hR⟩ := Classical.axiomOfChoice hel
              have hRl : ((List.range len).map R).length = len := by simp
              have hRi : ∀ i r, ((List.range len).map R)[i]? = some r → i < len ∧ r = R i := fun i r hr => by
                have hi : i < len := by
                  have := (List.getElem?_eq_some_iff.1 hr).1
                  simpa using this
                rw [List.getElem?_map, List.getElem?_range hi] at hr
                simp only [Option.map_some, Option.some.injEq] at hr
                exact ⟨hi, hr.symm⟩
              have hrd := Xge (P := P) (W := W) (e := e) (rows := (List.range len).map R) (a := a) (cap := cap) (by rw [hRl]; exact hk1) hk2 (by omega) (fun i r hr => by
                obtain ⟨hi, rfl⟩ := hRi i r hr
                exact ⟨(hR i hi).1, (hR i hi).2.2⟩)
              rw [hRl] at hrd
              refine Qhy (c := .list e ((List.range len).map R)) hs (by
                simp only [PTy, ht]
                refine ⟨_, rfl, by rw [hRl]; omega, fun r hr => ?_⟩
                obtain ⟨i, hi⟩ := List.getElem?_of_mem hr
                obtain ⟨hi2, rfl⟩ := hRi i r hi
                exact (hR i hi2).2.1) hrd
          · cases h
    · rename_i fs n' b z ht
      obtain ⟨F, hu, hF⟩ : ∃ F, P.underlying t = some (.struct F) ∧ F.toList.map (fun f => (f.offset, f.type)) = fs := (hT t _ ht).desc
      simp only [Bool.and_eq_true, List.all_eq_true] at hp
      obtain ⟨hp1, hp2⟩ := hp
      have hs : P.cellsOf t = n' := (hT t _ ht).cells
      have hs2 : Qb3 ty t = n' := by simp only [Qb3, ht]
      have hx : ∃ y, (if cs.length = P.cellsOf t then (F.toList.mapM fun f => DataW.trod enc P W 0 sp held fuel f.type ((cs.drop f.offset).take (P.cellsOf f.type))).map fun xs => ((DataW.agg (xs.map (·.1)) : DataW H), xs.flatMap (·.2)) else none) = some y := by
        simp only [DataW.trod, hu] at h
        first
          | exact ⟨_, h⟩
          | (split at h <;> first | exact ⟨_, h⟩ | contradiction | (simp_all; done))
      obtain ⟨y, hx⟩ := hx
      split at hx
      · rename_i hlen
        cases hm : F.toList.mapM fun f => DataW.trod enc P W 0 sp held fuel f.type ((cs.drop f.offset).take (P.cellsOf f.type)) with
        | none => rw [hm] at hx; simp at hx
        | some xs =>
          have hall : ∀ z ∈ fs, Qz1 P W ty n z.2 ((cs.drop z.1).take (Qb3 ty z.2)) := by
            intro z hz
            have hpz := hp2 z hz
            rw [← hF, List.mem_map] at hz
            obtain ⟨f, hf, rfl⟩ := hz
            obtain ⟨i, hi⟩ := List.getElem?_of_mem hf
            have h1 := mapM_some_get hm i f hi
            have hlt : i < xs.length := by rw [mapM_some_length hm]; exact (List.getElem?_eq_some_iff.1 hi).1
            rw [List.getElem?_eq_getElem hlt] at h1
            have hsz : P.cellsOf f.type = Qb3 ty f.type := by
              cases hty : ty f.type with
              | none => cases n with
                | zero => cases hpz
                | succ n => simp only [Qi6, hty] at hpz; cases hpz
              | some d => rw [(hT f.type d hty).cells]; simp only [Qb3, hty]
            rw [hsz] at h1
            exact Qjw hT n f.type fuel _ _ hpz h1
          obtain ⟨cells, c1, c2, c3⟩ := Qhj (P := P) (W := W) (ty := ty) (n := n) (cs := cs) fs 0 (by rw [hlen, hs]; exact hp1) (by omega) hall
          refine ⟨cells, by omega, by rw [hlen, hs, hs2], by simp only [PTy, ht]; exact c2, fun j c u hc hu => ?_⟩
          exact c3 j c u hc (by rw [Nat.zero_add]; exact hu)
      · cases hx
    · rename_i m e n' b z ht
      have hu : P.underlying t = some (.array m e) := (hT t _ ht).desc
      simp only [Bool.and_eq_true] at hp
      obtain ⟨hp1, hp2⟩ := hp
      have hs : P.cellsOf t = n' := (hT t _ ht).cells
      have hs2 : Qb3 ty t = n' := by simp only [Qb3, ht]
      have hsz : P.cellsOf e = Qb3 ty e := by
        cases hty : ty e with
        | none => cases n with
          | zero => cases hp2
          | succ n => simp only [Qi6, hty] at hp2; cases hp2
        | some d => rw [(hT e d hty).cells]; simp only [Qb3, hty]
      have hx : ∃ y, (if cs.length = P.cellsOf t then ((List.range m).mapM fun i => DataW.trod enc P W 0 sp held fuel e ((cs.drop (i * P.cellsOf e)).take (P.cellsOf e))).map fun xs => ((DataW.agg (xs.map (·.1)) : DataW H), xs.flatMap (·.2)) else none) = some y := by
        simp only [DataW.trod, hu] at h
        first
          | exact ⟨_, h⟩
          | (split at h <;> first | exact ⟨_, h⟩ | contradiction | (simp_all; done))
      obtain ⟨y, hx⟩ := hx
      split at hx
      · rename_i hlen
        cases hm : (List.range m).mapM fun i => DataW.trod enc P W 0 sp held fuel e ((cs.drop (i * P.cellsOf e)).take (P.cellsOf e)) with
        | none => rw [hm] at hx; simp at hx
        | some xs =>
          have hall : ∀ z ∈ arF m (Qb3 ty e) e, Qz1 P W ty n z.2 ((cs.drop z.1).take (Qb3 ty z.2)) := by
            intro z hz
            simp only [arF, List.mem_map, List.mem_range] at hz
            obtain ⟨i, hi, rfl⟩ := hz
            have h1 := mapM_some_get hm i i (by simp [hi])
            have hlt : i < xs.length := by rw [mapM_some_length hm]; simpa using hi
            rw [List.getElem?_eq_getElem hlt, hsz] at h1
            exact Qjw hT n e fuel _ _ hp2 h1
          obtain ⟨cells, c1, c2, c3⟩ := Qhj (P := P) (W := W) (ty := ty) (n := n) (cs := cs) (arF m (Qb3 ty e) e) 0 (by rw [hlen, hs]; exact hp1) (by omega) hall
          refine ⟨cells, by omega, by rw [hlen, hs, hs2], by simp only [PTy, ht]; exact c2, fun j c u hc hu => ?_⟩
          exact c3 j c u hc (by rw [Nat.zero_add]; exact hu)
      · cases hx
    · cases hp
end
end Go.Proofs.YtmiojnibngncaaaGreat
namespace Go.Proofs.YtmiojnibngncaaaGreat
open Go Go.RowKit Go.WideShapes Go.ChangeShapes
set_option linter.unusedVariables false
set_option linter.unusedSimpArgs false
def Xhb : List PT → VV
  | [c] => c.vv
  | _ => .any
def Ql4 (ty : Ty) (t : TypeId) (cells : List PT) : VV :=
  match ty t with
  | some ⟨.st _, _, _, _⟩ => .agg (cells.map PT.vv)
  | some ⟨.ar _ _, _, _, _⟩ => .agg (cells.map PT.vv)
  | _ => Xhb cells
section
variable {P : Program} {W W' : World} {ty : Ty} {H : Type} {enc : TypeId × Value → H} {held : Bool} {sp : Nat → Bool}
theorem Qv9 (hT : Qeo P ty) {n : Nat} {t : TypeId} {base : Nat} {v : Value} {d : DataW H} {ps : List MemPlace} (hp : Qi6 ty n t = true) (hv : Value.okWide P W .any base t v) (h : DataW.Trod enc P W 0 sp held t v d ps) :
    ∃ cells, PTy ty n t cells ∧ Qju P (Qcv W) (fun _ => .dead) Gh.nil (Ql4 ty t cells) v := by
  obtain ⟨fuel, h⟩ := h
  obtain ⟨cells, h1, h2, h3, h4⟩ := Qjw hT n t fuel _ _ hp h
  refine ⟨cells, h3, ?_⟩
  have hone : (∀ cs, v ≠ .agg cs) → Qb3 ty t = 1 → Xhb cells = Ql4 ty t cells → Qju P (Qcv W) (fun _ => .dead) Gh.nil (Ql4 ty t cells) v := by
    intro hna hs he
    have hc : v.cells.toList = [v] := by cases v <;> first | rfl | exact absurd rfl (hna _)
    rw [hc] at h1 h4
    rw [← he]
    match cells, h1 with
    | [c], _ => exact Qdc (Xdw (h4 0 c v rfl rfl))
  cases n with
  | zero => cases hp
  | succ n =>
    unfold Qi6 at hp
    split at hp
    · rename_i k n' b z ht
      have hu : P.underlying t = some (.int k) := (hT t _ ht).desc
      refine hone (fun cs hh => ?_) (by simp only [Qb3, ht]; simpa using hp) (by simp only [Ql4, ht])
      subst hh; simp [Value.okWide, hu, Cell.okWide, Cell.ok] at hv
    · rename_i n' b z ht
      have hu : P.underlying t = some .bool := (hT t _ ht).desc
      refine hone (fun cs hh => ?_) (by simp only [Qb3, ht]; simpa using hp) (by simp only [Ql4, ht])
      subst hh; simp [Value.okWide, hu, Cell.okWide, Cell.ok] at hv
    · rename_i n' b z ht
      have hu : P.underlying t = some .string := (hT t _ ht).desc
      refine hone (fun cs hh => ?_) (by simp only [Qb3, ht]; simpa using hp) (by simp only [Ql4, ht])
      subst hh; simp [Value.okWide, hu, Cell.okWide, Cell.ok] at hv
    · rename_i e n' b z ht
      have hu : P.underlying t = some (.slice e) := (hT t _ ht).desc
      simp only [Bool.and_eq_true, beq_iff_eq] at hp
      refine hone (fun cs hh => ?_) (by simp only [Qb3, ht]; exact hp.1.1) (by simp only [Ql4, ht])
      subst hh; simp [Value.okWide, hu, Cell.okWide, Cell.ok] at hv
    · rename_i fs n' b z ht
      obtain ⟨F, hu, hF⟩ : ∃ F, P.underlying t = some (.struct F) ∧ F.toList.map (fun f => (f.offset, f.type)) = fs := (hT t _ ht).desc
      obtain ⟨cs, rfl, _⟩ : ∃ cs, v = .agg cs ∧ cs.size = P.cellsOf t ∧ Row.okWide P W .any base t cs := by simpa [Value.okWide, hu] using hv
      simp only [Ql4, ht]
      refine ⟨cs.toList, by simp, ?_, fun j c u hc hu' => ?_⟩
      · have : cells.length = cs.toList.length := h1
        simpa using this.symm
      · simp only [List.getElem?_map, Option.map_eq_some_iff] at hc
        obtain ⟨c0, hc0, rfl⟩ := hc
        exact Xdw (h4 j c0 u hc0 hu')
    · rename_i m e n' b z ht
      have hu : P.underlying t = some (.array m e) := (hT t _ ht).desc
      obtain ⟨cs, rfl, _⟩ : ∃ cs, v = .agg cs ∧ cs.size = P.cellsOf t ∧ Row.okWide P W .any base t cs := by simpa [Value.okWide, hu] using hv
      simp only [Ql4, ht]
      refine ⟨cs.toList, by simp, ?_, fun j c u hc hu' => ?_⟩
      · have : cells.length = cs.toList.length := h1
        simpa using this.symm
      · simp only [List.getElem?_map, Option.map_eq_some_iff] at hc
        obtain ⟨c0, hc0, rfl⟩ := hc
        exact Xdw (h4 j c0 u hc0 hu')
    · cases hp
theorem Xc5 (h : Frm (Qcv W) W') : Below W.heap.size W W' := ⟨h.os, h.tape, h.output, h.size, fun k hk => Qp8 h hk⟩
theorem Qtv {t : TypeId} (hl : laidOutB P = true) (hr : P.readableRec t = true) (hrow : t < P.types.size) {v : Value} {d : DataW H} {ps : List MemPlace} (h : DataW.Trod enc P W 0 (fun _ => true) true t v d ps) (hb : Below W.heap.size W W')
    (hlt : ∀ x ∈ ps, x.block < W.heap.size) (hs : ∀ x ∈ ps, sp x.block = true) : DataW.Trod enc P W' 0 sp true t v d ps :=
  Go.WideElems.Trod_stays hl hr hrow h (fun x hx => hb.same (hlt x hx)) hs
theorem Qyi {f : Func} {s : ChangeSpec} {apart fresh handsOn again : Bool} {args : Array Value} {v : Value} {ds gs : List (DataW H)} {before pa pv : List MemPlace}
    (hW : DataW.Whole enc P f.params.toList s.vars apart W args.toList ds gs before)
    (hres : ∀ (b : Nat) (sp : Nat → Bool) (hd : Bool), DataW.TrodAll enc P W' b sp hd f.resultTypes.toList (v.resultList f.resultTypes.size) (s.fn H (ds ++ gs)).results [])
    (hargs : ∀ sp : Nat → Bool, (∀ p ∈ before, sp p.block = true) → DataW.TrodAll enc P W' 0 sp true f.params.toList args.toList (s.fn H (ds ++ gs)).args pa)
    (hvars : ∀ sp : Nat → Bool, (∀ p ∈ before, sp p.block = true) → DataW.TrodVars enc P W' sp s.vars (s.fn H (ds ++ gs)).vars pv)
    (hps : before = pa ++ pv) (hb : Below W.heap.size W W')
    (hok : ∀ (j : Nat) (t : TypeId) (r : Value), f.resultTypes[j]? = some t → (v.resultList f.resultTypes.size)[j]? = some r → Value.okWide P W' .any 0 t r) :
    s.post enc P f apart fresh handsOn again W args v W' := by
  have hlt : ∀ p ∈ before, p.block < W.heap.size := fun p hp => hW.lt p hp
  have hold : ∀ p ∈ before, (fun b => decide (b < W.heap.size)) p.block = true := fun p hp => by simpa using hlt p hp
  refine ⟨ds, gs, before, [], pa, pv, hW, hres _ _ _, hargs _ hold, hvars _ hold, World.keptBut_mono (fun p hp => ⟨hp, by rw [hps, List.mem_append] at hp; exact Or.inr hp⟩) (hb.frame (· ∈ before)), fun _ => ?_⟩
  obtain ⟨_, _, _, _, _, hz, hn⟩ := hW
  refine ⟨hok, _, _, ([] ++ pa) ++ pv, ⟨[] ++ pa, pv, trodAll_append (hargs _ (fun _ _ => rfl)) (hres _ _ _), hvars _ (fun _ _ => rfl), rfl, fun b off hp => ?_, fun ha => ?_⟩, fun p hp _ => ?_⟩
  · have hin : MemPlace.cell b off ∈ before := by rw [hps]; simpa using hp
    rw [hb.frozen (hlt _ hin)]
    exact hz b off hin
  · have := hn ha
    rw [hps] at this
    simpa using this
  · rw [hps]
    simpa using hp
end
end Go.Proofs.YtmiojnibngncaaaGreat
namespace Go.Proofs.YtmiojnibngncaaaGreat
open Go Go.RowKit
set_option linter.unusedVariables false
set_option linter.unusedSimpArgs false
section
variable {P : Program} {E : Env} {tm : Nat → VV} {H : Qbi} {nx N : Nat}
def Xci {X : Type} (tl : X → List (Nat × VV)) (hl : X → List (Nat × Ent)) (μ : X → Nat) (J : X → Prop) (B : X → Nat) (N : Nat) (x : X) (s' : St) : Prop :=
  ∃ ms H', Qb1 ms s'.H = some H' ∧ ∃ x', J x' ∧ μ x' < μ x ∧ (∀ p ∈ tl x', s'.tm p.1 = p.2) ∧ (∀ p ∈ hl x', H' p.1 = p.2) ∧ B x' ≤ s'.nx ∧ s'.N = N ∧ s'.lim = none
theorem nextB {X : Type} {tl : X → List (Nat × VV)} {hl : X → List (Nat × Ent)} {μ : X → Nat} {J : X → Prop} {B : X → Nat} {x : X} (x' : X) (h1 : J x') (h2 : μ x' < μ x) (h3 : ∀ p ∈ tl x', tm p.1 = p.2) (h4 : ∀ p ∈ hl x', H p.1 = p.2) (h5 : B x' ≤ nx) :
    Xci tl hl μ J B N x ⟨tm, H, nx, N, none⟩ := ⟨[], _, rfl, x', h1, h2, h3, h4, h5, rfl, rfl⟩
theorem Xcg {X : Type} {tl : X → List (Nat × VV)} {hl : X → List (Nat × Ent)} {μ : X → Nat} {J : X → Prop} {B : X → Nat} {x : X} {H' : Qbi} (ms : List (Nat × Nat × Nat)) (h0 : Qb1 ms H = some H') (x' : X) (h1 : J x') (h2 : μ x' < μ x) (h3 : ∀ p ∈ tl x', tm p.1 = p.2) (h4 : ∀ p ∈ hl x', H' p.1 = p.2) (h5 : B x' ≤ nx) :
    Xci tl hl μ J B N x ⟨tm, H, nx, N, none⟩ := ⟨ms, H', h0, x', h1, h2, h3, h4, h5, rfl, rfl⟩
theorem Qm3 {X : Type} (tl : X → List (Nat × VV)) (hl : X → List (Nat × Ent)) (μ : X → Nat) (J : X → Prop) (B : X → Nat) (x0 : X) {c : Code} {Q : Exit → St → Prop} (hJ : J x0) (h1 : ∀ p ∈ tl x0, tm p.1 = p.2) (h2 : ∀ p ∈ hl x0, H p.1 = p.2) (hB : B x0 ≤ nx)
    (round : ∀ x nx, J x → B x ≤ nx → VWP P E c (Qbm (Xci tl hl μ J B N x) Q) ⟨tmL (tl x), hpL (hl x), nx, N, none⟩) :
    VWP P E (.loop c) Q ⟨tm, H, nx, N, none⟩ := by
  refine Qql (fun m s => ∃ x, J x ∧ m = μ x ∧ (∀ p ∈ tl x, s.tm p.1 = p.2) ∧ (∀ p ∈ hl x, s.H p.1 = p.2) ∧ B x ≤ s.nx ∧ s.N = N ∧ s.lim = none) (μ x0) ⟨x0, hJ, rfl, h1, h2, hB, rfl, rfl⟩ ?_
  rintro m s ⟨x, k1, rfl, k2, k3, k4, k5, k6⟩
  have hw := Qzx k2 k3 (Nat.le_refl s.nx) k6
  rw [k5] at hw
  refine Xer hw (Qpu (fun e s he => ?_) (round x s.nx k1 k4))
  cases e with
  | normal =>
    obtain ⟨ms, H', j0, x', j1, j2, j3, j4, j5, j6, j7⟩ := he
    exact ⟨{ s with H := H' }, fun g a w hr => (Qff hr j0).imp fun g' h => h.1, μ x', j2, x', j1, rfl, j3, j4, j5, j6, j7⟩
  | _ => exact ⟨s, fun g a w hr => ⟨g, hr⟩, he⟩
end
def Qo3 (H : Qbi) (T i j X : Nat) : Option Qbi :=
  match H T with
  | .root e rows => match rows[i]? with
    | some r => match r[j]? with
      | some (.list e' rows') => some (Qbd X (.root e' rows') (Qbd T (.root e (rows.set i (r.set j (.ref X rows'.length)))) H))
      | _ => none
    | _ => none
  | _ => none
def Qhp : List (Nat × Nat × Nat) → Nat → Qbi → Option Qbi
  | [], _, H => some H
  | (T, i, j) :: ms, nx, H => match Qo3 H T i j nx with
    | some H' => Qhp ms (nx + 1) H'
    | none => none
def Gh.split (g : Gh) (T i j X : Nat) : Gh :=
  { g with
    hd := fun Y p => if Y = X then g.hd T ((i, j) :: p) else g.hd Y p
    sn := fun Y => if Y = X then true else g.sn Y
    own := fun b => match g.own b with
      | some (Y, (a, c) :: p) => if Y = T ∧ a = i ∧ c = j then some (X, p) else some (Y, (a, c) :: p)
      | o => o }
section
variable {P : Program} {E : Env} {g g' : Gh} {H H' : Qbi} {w w' : World}
theorem Qwm {T : Nat} {p : Qk6} {e : TypeId} {rows : List (List PT)} (h : Qkp P E H g w T p e rows) : Qib rows.length (g.hd T p) = g.hd T p ∧ (g.hd T p).oneCell' = true := by
  rcases h with ⟨k1, k2⟩ | ⟨b, cap, cur, k1, _⟩
  · rw [k1, k2]; exact ⟨rfl, rfl⟩
  · rw [k1]; exact ⟨rfl, rfl⟩
theorem Qy0 (h : HRel P E g H w) {T i j X : Nat} {e e' : TypeId} {rows rows' : List (List PT)} {r : List PT} (hT : H T = .root e rows) (hr : rows[i]? = some r) (hc : r[j]? = some (.list e' rows')) (hX : g.sn X = false) :
    HRel P E (g.split T i j X) (Qbd X (.root e' rows') (Qbd T (.root e (rows.set i (r.set j (.ref X rows'.length)))) H)) w ∧
      HLe g H (g.split T i j X) (Qbd X (.root e' rows') (Qbd T (.root e (rows.set i (r.set j (.ref X rows'.length)))) H)) := by
  have hj : j < r.length := (List.getElem?_eq_some_iff.1 hc).1
  have hlt : i < rows.length := (List.getElem?_eq_some_iff.1 hr).1
  have hsT : g.sn T = true := h.seen T (by simp [hT, Ent.live])
  have hne : T ≠ X := by rintro rfl; rw [hX] at hsT; cases hsT
  have hsee : ∀ Y, g.sn Y = true → Y ≠ X := fun Y hY => by rintro rfl; rw [hX] at hY; cases hY
  have hle : HLe g H (g.split T i j X) (Qbd X (.root e' rows') (Qbd T (.root e (rows.set i (r.set j (.ref X rows'.length)))) H)) := by
    refine ⟨fun Y hY => by simp [Gh.split, hY], fun Y e2 rows2 hs hY => ?_, fun Y hs hY => ?_, fun Y hs _ => by simp [Gh.split, hsee Y hs], fun Y _ _ => rfl⟩
    · rw [Qa9 _ _ (hsee Y hs)] at hY
      by_cases c1 : Y = T
      · subst c1
        rw [Qa7] at hY
        injection hY with e1 _
        subst e1
        exact ⟨_, hT⟩
      · rw [Qa9 _ _ c1] at hY; exact ⟨_, hY⟩
    · rw [Qa9 _ _ (hsee Y hs)] at hY
      by_cases c1 : Y = T
      · subst c1; simp [hT, Ent.live]
      · rwa [Qa9 _ _ c1] at hY
  have hat : ∀ p, At ((i, j) :: p) (.list e rows) = At p (.list e' rows') := fun p => by
    simp [At, hr, hc]
  have hnode : ∀ p e3 rows3, At p (.list e' rows') = some (e3, rows3) → Qkp P E H g w T ((i, j) :: p) e3 rows3 := fun p e3 rows3 hp =>
    h.node T e rows hT _ e3 rows3 (by rw [hat]; exact hp)
  have hown : ∀ (Y : Nat) (p : Qk6) (b : Nat), ¬ (Y = T ∧ ∃ q, p = (i, j) :: q) → g.own b = some (Y, p) → (g.split T i j X).own b = some (Y, p) := fun Y p b hn hb => by
    simp only [Gh.split, hb]
    cases p with
    | nil => rfl
    | cons x q =>
      obtain ⟨a, c⟩ := x
      simp only
      rw [if_neg]
      rintro ⟨rfl, rfl, rfl⟩
      exact hn ⟨rfl, q, rfl⟩
  refine ⟨⟨h.frm, fun Y e2 rows2 hY p e3 rows3 hp => ?_, fun Y cs hY => ?_, fun Y hY => ?_⟩, hle⟩
  · by_cases c0 : Y = X
    · subst c0
      rw [Qa7] at hY
      injection hY with e1 e4
      subst e1
      subst e4
      have hk := hnode p e3 rows3 hp
      have := Qi9 (g' := g.split T i j Y) (Y := Y) (q := p) hle hk rows3.length (Nat.le_refl _) (by rw [(Qwm hk).1]; simp [Gh.split]) (fun x => by simp [Gh.split]) (fun b hb => by simp [Gh.split, hb])
      rwa [List.take_length] at this
    · rw [Qa9 _ _ c0] at hY
      by_cases c1 : Y = T
      · subst c1
        rw [Qa7] at hY
        injection hY with e1 e4
        subst e1
        subst e4
        cases p with
        | nil =>
          simp only [At, Option.some.injEq, Prod.mk.injEq] at hp
          obtain ⟨rfl, rfl⟩ := hp
          rcases h.node Y e rows hT [] e rows rfl with ⟨_, k2⟩ | ⟨b, cap, cur, k1, k2, k3, k4, k5, k6, k7, k8⟩
          · subst k2; simp at hlt
          · refine .inr ⟨b, cap, cur, by simpa [Gh.split, hne] using k1, hown Y [] b (by rintro ⟨_, q, hq⟩; cases hq) k2, k3, k4, by simpa using k5, k6, k7, fun a ra hra => ?_⟩
            by_cases ha : a = i
            · subst ha
              rw [List.getElem?_set_self hlt] at hra
              injection hra with hra
              subst hra
              obtain ⟨m1, m2⟩ := k8 a r hr
              refine ⟨by simpa using m1, fun k c hk => ?_⟩
              by_cases hkj : k = j
              · subst hkj
                rw [List.getElem?_set_self hj] at hk
                injection hk with hk
                subst hk
                obtain ⟨u, m3, m4⟩ := m2 k _ hc
                have m4 : u = g.hd Y ([] ++ [(a, k)]) := m4
                obtain ⟨n1, n2⟩ := Qwm (hnode [] e' rows' rfl)
                refine ⟨u, m3, by simp [Gh.split], by rw [m4]; exact n2, fun _ => ?_⟩
                rw [m4]
                simp only [Gh.split, if_true, List.nil_append]
                exact n1.symm
              · rw [List.getElem?_set_ne (Ne.symm hkj)] at hk
                obtain ⟨u, m3, m4⟩ := m2 k c hk
                refine ⟨u, m3, ?_⟩
                have : (g.split Y a j X).hd Y ([] ++ [(a, k)]) = g.hd Y ([] ++ [(a, k)]) := by simp [Gh.split, hne]
                rw [this]
                exact Qck hle m4
            · rw [List.getElem?_set_ne (Ne.symm ha)] at hra
              obtain ⟨m1, m2⟩ := k8 a ra hra
              refine ⟨m1, fun k c hk => ?_⟩
              obtain ⟨u, m3, m4⟩ := m2 k c hk
              refine ⟨u, m3, ?_⟩
              have : (g.split Y i j X).hd Y ([] ++ [(a, k)]) = g.hd Y ([] ++ [(a, k)]) := by simp [Gh.split, hne]
              rw [this]
              exact Qck hle m4
        | cons x q =>
          obtain ⟨a, b⟩ := x
          rw [Xeu hr hj] at hp
          by_cases hab : a = i ∧ b = j
          · rw [if_pos hab] at hp
            cases q <;> simp [At] at hp
          · rw [if_neg hab] at hp
            refine Qc0 hle (h.node Y e rows hT _ e3 rows3 hp) (fun p => by simp [Gh.split, hne]) (fun b' _ hb => hown Y _ b' ?_ hb) (fun _ _ _ => rfl)
            rintro ⟨_, q', hq'⟩
            injection hq' with h1 _
            injection h1 with h1 h2
            exact hab ⟨h1, h2⟩
      · rw [Qa9 _ _ c1] at hY
        exact Qc0 hle (h.node Y e2 rows2 hY p e3 rows3 hp) (fun q => by simp [Gh.split, c0]) (fun b _ hb => hown Y p b (fun hh => c1 hh.1) hb) (fun _ _ _ => rfl)
  · have c0 : Y ≠ X := by rintro rfl; rw [Qa7] at hY; cases hY
    rw [Qa9 _ _ c0] at hY
    have c1 : Y ≠ T := by rintro rfl; rw [Qa7] at hY; cases hY
    rw [Qa9 _ _ c1] at hY
    refine Qd7 hle (h.box Y cs hY) rfl (fun hh => by simp only [Gh.split, hh]) (fun _ _ hh => hh) (fun cur e he => ⟨cur, he, fun _ _ _ => rfl⟩)
  · by_cases c0 : Y = X
    · simp [Gh.split, c0]
    · rw [Qa9 _ _ c0] at hY
      by_cases c1 : Y = T
      · subst c1; simp [Gh.split, hsT]
      · rw [Qa9 _ _ c1] at hY
        simp [Gh.split, h.seen Y hY]
theorem Qop {a : Act} : ∀ (ms : List (Nat × Nat × Nat)) (g : Gh) (s : St) (H' : Qbi), Qhp ms s.nx s.H = some H' → s.lim = none → Rel P E g s a w → ∃ g', Rel P E g' { s with H := H', nx := s.nx + ms.length } a w
  | [], g, s, H', hm, hl, h => by
    simp only [Qhp, Option.some.injEq] at hm
    subst hm
    exact ⟨g, h⟩
  | (T, i, j) :: ms, g, s, H', hm, hl, h => by
    simp only [Qhp] at hm
    split at hm
    · rename_i H1 h1
      unfold Qo3 at h1
      split at h1
      · rename_i e rows hT
        split at h1
        · rename_i r hr
          split at h1
          · rename_i e' rows' hc
            simp only [Option.some.injEq] at h1
            subst h1
            have hfr : ∀ Y, s.nx ≤ Y → g.sn Y = false := fun Y hY => h.fresh Y ⟨hY, by rw [hl]; trivial⟩
            obtain ⟨k1, k2⟩ := Qy0 h.heap hT hr hc (hfr s.nx (Nat.le_refl _))
            have h2 := Qep (n' := s.nx + 1) h k2 k1 (fun Y hY => by
              have : s.nx + 1 ≤ Y := hY.1
              simp only [Gh.split]
              rw [if_neg (by omega)]
              exact hfr Y (by omega))
            obtain ⟨g2, h3⟩ := Qop ms _ { s with H := _, nx := s.nx + 1 } H' hm hl h2
            refine ⟨g2, ?_⟩
            have hn : s.nx + 1 + ms.length = s.nx + (ms.length + 1) := by omega
            simp only [List.length_cons]
            rw [← hn]
            exact h3
          · cases h1
        · cases h1
      · cases h1
    · cases hm
variable {tm : Nat → VV} {nx N : Nat} {c : Code} {Q : Exit → St → Prop}
theorem Qls (ms : List (Nat × Nat × Nat)) (h0 : Qhp ms nx H = some H') (h : VWP P E c Q ⟨tm, H', nx + ms.length, N, none⟩) : VWP P E c Q ⟨tm, H, nx, N, none⟩ := fun g a w hr => by
  obtain ⟨g', h1⟩ := Qop ms g ⟨tm, H, nx, N, none⟩ H' h0 rfl hr
  exact h g' a w h1
theorem Xbk (ms : List (Nat × Nat × Nat)) (h0 : Qb1 ms H = some H') (h : VWP P E c Q ⟨tm, H', nx, N, none⟩) : VWP P E c Q ⟨tm, H, nx, N, none⟩ := fun g a w hr => by
  obtain ⟨g', h1, _⟩ := Qff hr h0
  exact h g' a w h1
theorem wSp {id : Nat} {l : Array Oper} {b : Bool} (ms : List (Nat × Nat × Nat)) (h : VWP P E (.region id l b) Q ⟨tm, H', nx + ms.length, N, none⟩) (h0 : Qhp ms nx H = some H' := by simp only [go_sem, F, Qhp, Qo3, Qb1, Qco, List.set_set, List.set_cons_succ, List.set_cons_zero, List.getElem?_set_self, List.getElem?_cons_succ, List.getElem?_cons_zero, Nat.le_refl]; rfl) : VWP P E (.region id l b) Q ⟨tm, H, nx, N, none⟩ := Qls ms h0 h
theorem Ql0 {id : Nat} {l : Array Oper} {b : Bool} (ms : List (Nat × Nat × Nat)) (h : VWP P E (.region id l b) Q ⟨tm, H', nx + ms.length, N, none⟩) (h0 : Qhp ms nx H = some H' := by simp only [go_sem, Int.reduceBEq, Int.reduceBNe, Int.reduceLT, Int.reduceLE, Int.reduceAdd, Int.reduceToNat, F, Qhp, Qo3, Qb1, Qco, List.set_set, List.set_cons_succ, List.set_cons_zero, List.getElem?_set_self, List.getElem?_cons_succ, List.getElem?_cons_zero, Nat.le_refl]; rfl) : VWP P E (.region id l b) Q ⟨tm, H, nx, N, none⟩ := Qls ms h0 h
theorem Qzu {id : Nat} {l : Array Oper} {b : Bool} (ms : List (Nat × Nat × Nat)) (h : VWP P E (.region id l b) Q ⟨tm, H', nx, N, none⟩) (h0 : Qb1 ms H = some H' := by simp only [go_sem, Int.reduceBEq, Int.reduceBNe, Int.reduceLT, Int.reduceLE, Int.reduceAdd, Int.reduceToNat, F, Qhp, Qo3, Qb1, Qco, List.set_set, List.set_cons_succ, List.set_cons_zero, List.getElem?_set_self, List.getElem?_cons_succ, List.getElem?_cons_zero, Nat.le_refl]; rfl) : VWP P E (.region id l b) Q ⟨tm, H, nx, N, none⟩ := Xbk ms h0 h
end
end Go.Proofs.YtmiojnibngncaaaGreat
