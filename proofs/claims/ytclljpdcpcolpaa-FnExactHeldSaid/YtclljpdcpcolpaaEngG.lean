/- The value-level engine, seventh part: every operation that only computes. -/
import Derived.Test.YtclljpdcpcolpaaEngF
namespace Go.Proofs.Ytclljpdcpcolpaa
open Go Go.RowKit
set_option linter.unusedVariables false
set_option linter.unusedSimpArgs false

section
variable {P : Program} {E : Env} {g : Gh} {s : St} {a : Act} {w : World} {ty : Ty}

theorem pick_rel {H : Heap} {b : Bool} {x y : VV} {X Y : Value} (hx : VRel P E H g x X) (hy : VRel P E H g y Y) : VRel P E H g (vPick b x y) (if b then X else Y) := by
  have base : VRel P E H g (cond b x y) (if b then X else Y) := by cases b <;> assumption
  unfold vPick
  split
  · obtain rfl : X = .bool _ := hx
    obtain rfl : Y = .bool _ := hy
    cases b <;> rfl
  · split
    · rename_i e
      subst e
      obtain rfl : X = .int _ _ := hx
      obtain rfl : Y = .int _ _ := hy
      cases b <;> rfl
    · exact base
  · exact base

theorem intOfT_spec (hT : TyOK P ty) {t : TypeId} {k : IntKind} (h : intOfT ty t = some k) : P.underlying t = some (.int k) := by
  unfold intOfT at h
  split at h
  · rename_i ht
    have := Option.some.inj h
    subst this
    exact (hT t _ ht).desc
  · cases h

theorem gives_len (hT : TyOK P ty) (h : Rel P E g s a w) {x : Operand} {t tr : TypeId} {r : VV} (hb : vLen ty s t (ev s x) = some r) :
    ∃ v, (Builtin.len_ #[t] tr #[a.eval x]).run P w = .ok v w ∧ VRel P E s.H g r v := by
  have hx := ev_rel h x
  generalize a.eval x = X at *
  generalize ev s x = vx at *
  unfold vLen at hb
  split at hb
  · rename_i b
    obtain rfl : X = .string b := hx
    split at hb
    · rename_i hs
      have h' := Option.some.inj hb
      rw [← h']
      exact ⟨goInt b.size, by simp [Builtin.len_, run_underlying (isStr_spec hT hs)], rfl⟩
    · cases hb
  · split at hb
    · rename_i e rows hs
      have h' := Option.some.inj hb
      rw [← h']
      obtain ⟨u, hu⟩ := isSl_spec hT hs
      obtain ⟨fh, hfh, hnode⟩ := hx
      obtain ⟨A, cap, hv, _⟩ := hnode [] e rows rfl
      rw [hfh] at hv
      subst hv
      exact ⟨goInt rows.length, by simp [Builtin.len_, run_underlying hu], rfl⟩
    · cases hb
  · split at hb
    · rename_i hs
      have h' := Option.some.inj hb
      rw [← h']
      obtain ⟨u, hu⟩ := isSl_spec hT hs
      obtain rfl : X = .slice none 0 0 := hx
      exact ⟨goInt 0, by simp [Builtin.len_, run_underlying hu], rfl⟩
    · cases hb
  · rename_i T n
    split at hb
    · rename_i hs
      split at hb
      · rename_i e rows hroot
        split at hb
        · rename_i hn
          have h' := Option.some.inj hb
          rw [← h']
          obtain ⟨u, hu⟩ := isSl_spec hT hs
          obtain ⟨hlt, hone, hv⟩ := hx
          have hv := hv (by simp [hroot, Ent.isRoot])
          subst hv
          have hcap : ∃ A cap, g.hd T [] = .slice A rows.length cap := by
            rcases h.heap.node T e rows hroot [] e rows rfl with ⟨h0, hnil⟩ | ⟨b, cap, cur, hhd, _⟩
            · exact ⟨none, 0, by rw [h0, hnil]; rfl⟩
            · exact ⟨_, cap, hhd⟩
          obtain ⟨A, cap, hhd⟩ := hcap
          rw [hhd]
          exact ⟨goInt n, by simp [Builtin.len_, run_underlying hu, cutv], rfl⟩
        · cases hb
      · cases hb
    · cases hb
  · cases hb

theorem map_one {f : Operand → VV} {l : List Operand} {x : VV} (h : l.map f = [x]) : ∃ y, l = [y] ∧ f y = x := by
  match l, h with
  | [y], h => exact ⟨y, rfl, by simpa using h⟩
theorem map_two {f : Operand → VV} {l : List Operand} {x x' : VV} (h : l.map f = [x, x']) : ∃ y y', l = [y, y'] ∧ f y = x ∧ f y' = x' := by
  match l, h with
  | [y, y'], h => simp at h; exact ⟨y, y', rfl, h.1, h.2⟩

theorem gives_val (hT : TyOK P ty) (h : Rel P E g s a w) {o : Oper} {r : VV} (hb : vval ty s o = some r) : Gives P E g s a w o r := by
  unfold vval at hb
  split at hb
  · rename_i x ho
    have h' := Option.some.inj hb
    rw [← h']
    exact ⟨a.eval x, by simp [execOp, ho], retype_rel _ (ev_rel h x)⟩
  · rename_i x ho
    have h' := Option.some.inj hb
    rw [← h']
    exact ⟨a.eval x, by simp [execOp, ho], retype_rel _ (ev_rel h x)⟩
  · rename_i c x y ho
    split at hb
    · rename_i b hc
      have h' := Option.some.inj hb
      rw [← h']
      have h1 := ev_rel h c
      rw [hc] at h1
      have h1 : a.eval c = .bool b := h1
      refine ⟨if b then a.eval x else a.eval y, by simp [execOp, ho, h1, asBool], pick_rel (ev_rel h x) (ev_rel h y)⟩
    · cases hb
  · rename_i ho
    exact gives_bin hT h ho hb
  · rename_i op t x ho
    have h1 := ev_rel h x
    unfold vUn at hb
    split at hb
    · rename_i k n hx
      rw [hx] at h1
      have h1 : a.eval x = .int k n := h1
      have h' := Option.some.inj hb
      rw [← h']
      exact ⟨.int k (k.wrap (0 - n)), by simp [execOp, ho, h1, Op.unary, Op.intArith], rfl⟩
    · rename_i b hx
      rw [hx] at h1
      have h1 : a.eval x = .bool b := h1
      have h' := Option.some.inj hb
      rw [← h']
      exact ⟨.bool (!b), by simp [execOp, ho, h1, Op.unary], rfl⟩
    · cases hb
  · rename_i src dst x ho
    split at hb
    · rename_i k0 k k' n hs hd hx
      have h1 := ev_rel h x
      rw [hx] at h1
      have h1 : a.eval x = .int k' n := h1
      have h' := Option.some.inj hb
      rw [← h']
      exact ⟨.int k (k.wrap n), by simp [execOp, ho, h1, convert, run_underlying (intOfT_spec hT hs), run_underlying (intOfT_spec hT hd), Conv.intToInt], rfl⟩
    · cases hb
  · rename_i ho
    exact gives_load hT h ho hb
  · rename_i ho
    exact gives_fieldAddr hT h ho hb
  · rename_i ho
    exact gives_field hT h ho hb
  · rename_i ho
    exact gives_indexAddr hT h ho hb
  · rename_i ho
    exact gives_index hT h ho hb
  · rename_i ho
    exact gives_extract h ho hb
  · rename_i ho
    exact gives_slice hT h ho hb
  · rename_i x ho
    have h1 := ev_rel h x
    split at hb
    · rename_i T j hx
      rw [hx] at h1
      split at hb
      · rename_i hl
        have h' := Option.some.inj hb
        rw [← h']
        obtain ⟨b, o', hv, _⟩ := bp_on (k := 0) hl h1
        exact ⟨a.eval x, by simp [execOp, ho, hv], h1⟩
      · cases hb
    · rename_i row hx
      rw [hx] at h1
      have h' := Option.some.inj hb
      rw [← h']
      obtain ⟨b, o', hv, _⟩ := fp_on (k := 0) h1
      exact ⟨a.eval x, by simp [execOp, ho, hv], h1⟩
    · rename_i T i j hx
      rw [hx] at h1
      split at hb
      · rename_i hl
        have h' := Option.some.inj hb
        rw [← h']
        obtain ⟨b, o', hv, _⟩ := np_on (k := 0) hl h1
        exact ⟨a.eval x, by simp [execOp, ho, hv], h1⟩
      · cases hb
    · cases hb
  · rename_i f first captured ho
    unfold vMakeFunc at hb
    split at hb
    · rename_i hc
      obtain ⟨h1, h2⟩ := hc
      simp only [Option.some.injEq] at hb
      subst hb
      have e1 : first = #[] := Array.eq_empty_of_size_eq_zero h1
      subst e1
      refine ⟨.func (.func f) #[] (captured.map a.eval), by simp [execOp, ho, Instr.makeFunc], (captured.map a.eval).toList, Array.toArray_toList.symm ▸ rfl, by simp, fun j c u hc hu => ?_⟩
      simp only [List.getElem?_map, Option.map_eq_some_iff] at hc
      obtain ⟨y, hy, rfl⟩ := hc
      simp only [Array.toList_map, List.getElem?_map, hy, Option.map_some, Option.some.injEq] at hu
      subst hu
      have hr := ev_rel h y
      have hok := List.all_eq_true.mp h2 _ (List.mem_map_of_mem (List.mem_of_getElem? hy))
      generalize ev s y = x at hr hok
      cases x <;> first | (simp [capOk] at hok; done) | exact hr
    · cases hb
  · rename_i c ho
    split at hb
    · rename_i b hcal
      unfold vBuiltin at hb
      split at hb
      · split at hb
        · rename_i x t hxs hts
          obtain ⟨y, hy, rfl⟩ := map_one hxs
          obtain ⟨v, h1, h2⟩ := gives_len (tr := o.type) hT h hb
          have e1 : c.args = #[y] := by rw [← Array.toList_inj]; exact hy
          have e2 : c.argTypes = #[t] := by rw [← Array.toList_inj]; exact hts
          exact ⟨v, by simp [execOp, ho, resolve, hcal, e1, e2, invoke, builtin, h1], h2⟩
        · cases hb
      · split at hb
        · rename_i x y hxs
          obtain ⟨x', y', hy, rfl, rfl⟩ := map_two hxs
          have e1 : c.args = #[x', y'] := by rw [← Array.toList_inj]; exact hy
          have h1 := ev_rel h x'
          have h2 := ev_rel h y'
          unfold vMin at hb
          split at hb
          · rename_i k n k' m hx hy
            rw [hx] at h1
            rw [hy] at h2
            have h1 : a.eval x' = .int k n := h1
            have h2 : a.eval y' = .int k' m := h2
            have h' := Option.some.inj hb
            rw [← h']
            exact ⟨.int k (if m < n then m else n), by simp [execOp, ho, resolve, hcal, e1, invoke, builtin, Builtin.min_, Builtin.min2, h1, h2], rfl⟩
          · cases hb
        · cases hb
      · split at hb
        · rename_i x y hxs
          obtain ⟨x', y', hy, rfl, rfl⟩ := map_two hxs
          have e1 : c.args = #[x', y'] := by rw [← Array.toList_inj]; exact hy
          have h1 := ev_rel h x'
          have h2 := ev_rel h y'
          unfold vMax at hb
          split at hb
          · rename_i k n k' m hx hy
            rw [hx] at h1
            rw [hy] at h2
            have h1 : a.eval x' = .int k n := h1
            have h2 : a.eval y' = .int k' m := h2
            have h' := Option.some.inj hb
            rw [← h']
            exact ⟨.int k (if n < m then m else n), by simp [execOp, ho, resolve, hcal, e1, invoke, builtin, Builtin.max_, Builtin.max2, h1, h2], rfl⟩
          · cases hb
        · cases hb
      · cases hb
    · cases hb
  · cases hb
end
end Go.Proofs.Ytclljpdcpcolpaa
