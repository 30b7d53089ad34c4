/- The value-level engine, fourth part: the operations that only compute or read do on the machine what they do on values. -/
import Derived.Test.YtclljpdcpcolpaaEngC
namespace Go.Proofs.Ytclljpdcpcolpaa
open Go Go.RowKit

theorem add_off (b o j : Nat) : (⟨b, o, none⟩ : Addr).add j = ⟨b, o + j, none⟩ := by
  unfold Addr.add
  split
  · rename_i h; subst h; rfl
  · rfl

section
variable {P : Program} {E : Env} {g : Gh} {s : St} {a : Act} {w : World} {ty : Ty}

theorem rd_cell (h : Frm E w) {b o : Nat} {u : Value} (hr : E.rd b o u) : w.cell? ⟨b, o, none⟩ = some u := by
  obtain ⟨hb, ho, hc⟩ := hr
  cases hx : E.w0.heap[b]? with
  | none => simp [World.cell?, hx] at hc
  | some x =>
    cases x with
    | cells c e fz =>
      obtain ⟨c', hc', _, hk⟩ := h.cells b c e fz hx
      simp only [World.cell?, hx] at hc
      simp only [World.cell?, hc']
      have := hk o ho
      simp_all
    | _ => simp [World.cell?, hx] at hc

theorem vrel_of_arel {H : Heap} {x : VV} {v : Value} (h : ARel P E H g x v) : VRel P E H g x v := by
  cases x <;> first | exact h | exact h.elim
theorem arel_of_crel {H : Heap} {x : VV} {v : Value} (h : CRel P E H g x v) : ARel P E H g x v := by
  cases x <;> first | exact h | exact h.elim
theorem vrel_of_crel {H : Heap} {x : VV} {v : Value} (h : CRel P E H g x v) : VRel P E H g x v := vrel_of_arel (arel_of_crel h)

theorem retype_rel {H : Heap} (t : TypeId) {x : VV} {v : Value} (h : VRel P E H g x v) : VRel P E H g (retype ty t x) v := by
  unfold retype
  split
  · split <;> exact h
  · exact h

/-- n cells of memory, as a variable's value. -/
theorem load_cells (hT : TyOK P ty) {H : Heap} {t : TypeId} {d : TyE} (ht : ty t = some d) {b o : Nat} {vs : List VV} (hl : vs.length = d.size)
    (hc : ∀ (j : Nat) (c : VV), vs[j]? = some c → ∃ u, w.cell? ⟨b, o + j, none⟩ = some u ∧ CRel P E H g c u) {x : VV}
    (hx : (if d.d.isAgg then some (.agg vs) else match vs with | [c] => some c | _ => none) = some x) :
    ∃ v, (Instr.loadAt t (.pointer (some ⟨b, o, none⟩))).run P w = .ok v w ∧ VRel P E H g x v := by
  have h1 := hT t d ht
  -- the cells as a list of values
  have hcs : ∃ cs : List Value, cs.length = vs.length ∧ ∀ (j : Nat) (c : VV) (u : Value), vs[j]? = some c → cs[j]? = some u → w.cell? ⟨b, o + j, none⟩ = some u ∧ CRel P E H g c u := by
    refine ⟨(List.range vs.length).map fun j => (w.cell? ⟨b, o + j, none⟩).getD undef, by simp, fun j c u hj hu => ?_⟩
    obtain ⟨u', h1, h2⟩ := hc j c hj
    have hlt : j < vs.length := by
      rcases Nat.lt_or_ge j vs.length with h | h
      · exact h
      · rw [List.getElem?_eq_none h] at hj; cases hj
    simp [hlt, h1] at hu
    subst hu
    exact ⟨h1, h2⟩
  obtain ⟨cs, hlen, hcs⟩ := hcs
  by_cases ha : d.d.isAgg = true
  · rw [if_pos ha] at hx
    have hx' := Option.some.inj hx
    have hr := run_loadCells_list (P := P) w ⟨b, o, none⟩ cs (fun j v hv => by
      rw [add_off]
      have hlt : j < cs.length := by
        rcases Nat.lt_or_ge j cs.length with h | h
        · exact h
        · rw [List.getElem?_eq_none h] at hv; cases hv
      exact (hcs j _ v (List.getElem?_eq_getElem (by omega)) hv).1)
    rw [hlen, hl] at hr
    refine ⟨.agg cs.toArray, ?_, ?_⟩
    · simp [Instr.loadAt, Instr.sureAddr, loadVar, h1.run_agg, ha, h1.run_size, hr]
    · rw [← hx']
      exact ⟨cs, rfl, hlen, fun j c u hj hu => (hcs j c u hj hu).2⟩
  · rw [if_neg ha] at hx
    match vs, hx with
    | [c], hx =>
      have hx' := Option.some.inj hx
      obtain ⟨u, hu, hcu⟩ := hc 0 c rfl
      refine ⟨u, ?_, ?_⟩
      · simp only [Nat.add_zero] at hu
        simp [Instr.loadAt, Instr.sureAddr, loadVar, h1.run_agg, ha, hu]
      · rw [← hx']; exact vrel_of_crel hcu

theorem rowVV_spec {row : List PT} {n : Nat} {vs : List VV} (h : rowVV row n = some vs) : vs.length = n ∧ ∀ (j : Nat) (c : VV), vs[j]? = some c → ∃ q, row[j]? = some q ∧ c = q.vv := by
  unfold rowVV at h
  simp only at h
  split at h
  · rename_i hl
    have h' := Option.some.inj h
    rw [← h']
    refine ⟨hl, fun j c hj => ?_⟩
    simp only [List.getElem?_map, List.getElem?_take] at hj
    split at hj
    · cases hr : row[j]? with
      | none => rw [hr] at hj; cases hj
      | some q => rw [hr] at hj; exact ⟨q, rfl, (Option.some.inj hj).symm⟩
    · cases hj
  · cases h

theorem ocell_vv {H : Heap} {c : PT} {h u : Value} (hp : plainCell c = true) (ho : ocell H g c h u) : CRel P E H g c.vv u := by
  cases c <;> first | exact ho | (simp [plainCell] at hp)

theorem load_run (hT : TyOK P ty) (h : Rel P E g s a w) {t : TypeId} {vx : VV} {X : Value} {r : VV} (hx : VRel P E s.H g vx X) (hb : vLoad ty s t vx = some r) : ∃ v, (Instr.loadAt t X).run P w = .ok v w ∧ VRel P E s.H g r v := by
  unfold vLoad at hb
  split at hb
  · cases hb
  · rename_i d ht
    simp only at hb
    split at hb
    · cases hb
    · rename_i cs hcs
      split at hcs
      · rename_i row
        obtain ⟨b, o, rfl, hr⟩ := hx
        obtain ⟨hl, hc⟩ := rowVV_spec hcs
        refine load_cells hT ht hl (fun j c hj => ?_) hb
        obtain ⟨q, hq, rfl⟩ := hc j c hj
        obtain ⟨u, h1, h2⟩ := hr j q hq
        exact ⟨u, rd_cell h.heap.frm h1, rd_vv h2⟩
      · rename_i T j0
        split at hcs
        · rename_i bs hbs
          try simp only at hcs
          split at hcs
          · rename_i hl
            have hcs' := Option.some.inj hcs
            obtain ⟨_, _, hv⟩ := hx
            have hv := hv (by simp [hbs, Ent.live])
            subst hv
            obtain ⟨cur, e, hw, _, hcell⟩ := h.heap.box T bs hbs
            refine load_cells hT ht (by rw [← hcs']; exact hl) (fun j c hj => ?_) hb
            rw [← hcs'] at hj
            rw [List.getElem?_take] at hj
            split at hj
            · rw [List.getElem?_drop] at hj
              obtain ⟨_, _, u, hu, hcr⟩ := hcell (j0 + j) c hj
              refine ⟨u, ?_, hcr⟩
              rw [cell_of_row _ _ _ _ _ _ hw, ← hu, Nat.add_assoc]
            · cases hj
          · cases hcs
        · cases hcs
      · rename_i T i j0
        split at hcs
        · rename_i e rows hroot
          split at hcs
          · rename_i r hr
            split at hcs
            · rename_i hpl
              obtain ⟨hl, hc⟩ := rowVV_spec hcs
              obtain ⟨_, _, hv⟩ := hx
              obtain ⟨b, n, c0, hhd, rfl⟩ := hv e rows hroot
              have hn := h.heap.node T e rows hroot [] e rows rfl
              refine load_cells hT ht hl (fun j c hj => ?_) hb
              obtain ⟨q, hq, rfl⟩ := hc j c hj
              rcases hn with ⟨h0, hnil⟩ | ⟨b', cap, cur, hhd', _, _, hw, _, _, hsz, hrows⟩
              · rw [hhd] at h0; cases h0
              · rw [hhd] at hhd'
                injection hhd' with e1 _ _
                injection e1 with e1
                injection e1 with e1 _ _
                subst e1
                obtain ⟨_, hcell⟩ := hrows i r hr
                rw [List.getElem?_drop] at hq
                obtain ⟨u, hu, hou⟩ := hcell (j0 + j) q hq
                refine ⟨u, ?_, ocell_vv ?_ hou⟩
                · rw [cell_of_row _ _ _ _ _ _ hw, ← hu, Nat.add_assoc]
                · have hmem : q ∈ (r.drop j0).take d.size := by
                    have hj2 : j < d.size := by
                      rcases Nat.lt_or_ge j cs.length with h' | h'
                      · omega
                      · rw [List.getElem?_eq_none h'] at hj; cases hj
                    refine List.mem_of_getElem? (i := j) ?_
                    rw [List.getElem?_take, if_pos hj2, List.getElem?_drop]
                    exact hq
                  exact List.all_eq_true.mp hpl q hmem
            · cases hcs
          · cases hcs
        · cases hcs
      · cases hcs

theorem gives_load (hT : TyOK P ty) (h : Rel P E g s a w) {o : Oper} {t : TypeId} {x : Operand} {r : VV} (ho : o.op = .load t x) (hb : vLoad ty s t (ev s x) = some r) : Gives P E g s a w o r := by
  obtain ⟨v, h1, h2⟩ := load_run hT h (ev_rel h x) hb
  exact ⟨v, by simp [execOp, ho, h1], h2⟩
end
end Go.Proofs.Ytclljpdcpcolpaa
