/- The value-level engine, sixth part: all operations that only compute. -/
import Derived.Test.YtclljpdcpcolpaaEngE
namespace Go.Proofs.Ytclljpdcpcolpaa
open Go Go.RowKit
set_option linter.unusedVariables false
set_option linter.unusedSimpArgs false

section
variable {P : Program} {E : Env} {g : Gh} {s : St} {a : Act} {w : World} {ty : Ty}

theorem run_size' (hT : TyOK P ty) {e : TypeId} (h : sizeT ty e ≠ 0) : (sizeOf e).run P w = .ok (P.cellsOf e) w := by
  obtain ⟨d, hd, hs⟩ := sizeT_spec hT h
  rw [(hT e d hd).cells]
  exact (hT e d hd).run_size w

theorem bound_spec {H : Heap} {x : Option Operand} {d n : Nat} {a : Act} (hx : ∀ y, VRel P E H g (ev s y) (a.eval y)) (hb : bound (x.map (ev s)) d = some n) :
    (x = none ∧ n = d) ∨ ∃ y k, x = some y ∧ a.eval y = .int k n := by
  cases x with
  | none => simp [bound] at hb; exact .inl ⟨rfl, hb.symm⟩
  | some y =>
    simp only [Option.map_some, bound] at hb
    have h := hx y
    split at hb
    · rename_i he; cases he
    · rename_i k m he
      have he' := Option.some.inj he
      rw [he'] at h
      split at hb
      · rename_i hm
        have h' := Option.some.inj hb
        refine .inr ⟨y, k, rfl, ?_⟩
        have : a.eval y = .int k m := h
        rw [this, ← h', Int.toNat_of_nonneg hm]
      · cases hb
    · cases hb

theorem run_sliceBound {k : IntKind} {n y : Nat} (hn : n ≤ y) (code : BoundsCode) : (Instr.sliceBound (.int k (n : Int)) y code).run P w = .ok n w := by
  have : ((0 : Int) ≤ n ∧ (n : Int) ≤ y) := ⟨by omega, by omega⟩
  simp [Instr.sliceBound, asIntOf, this]

theorem run_sliceBounds {isS : Bool} {len cap l h : Nat} {lo hi : Option Operand} {a : Act} (hlo : (lo = none ∧ l = 0) ∨ ∃ y k, lo = some y ∧ a.eval y = .int k l) (hhi : (hi = none ∧ h = len) ∨ ∃ y k, hi = some y ∧ a.eval y = .int k h)
    (hlh : l ≤ h) (hc : h ≤ cap) : (Instr.sliceBounds isS len cap (lo.map a.eval) (hi.map a.eval) none).run P w = .ok (l, h, cap) w := by
  rcases hlo with ⟨rfl, rfl⟩ | ⟨y, k, rfl, hy⟩ <;> rcases hhi with ⟨rfl, rfl⟩ | ⟨y2, k2, rfl, hy2⟩
  · simp [Instr.sliceBounds]
  · simp [Instr.sliceBounds, hy2, run_sliceBound hc]
  · simp [Instr.sliceBounds, hy, run_sliceBound hlh]
  · simp [Instr.sliceBounds, hy, hy2, run_sliceBound hlh, run_sliceBound hc]

theorem At_cut {e : TypeId} {rows : List (List PT)} {l h : Nat} {i j : Nat} {p : Path} (hi : i < h - l) : At ((i, j) :: p) (.list e ((rows.take h).drop l)) = At ((l + i, j) :: p) (.list e rows) := by
  simp only [At]
  rw [List.getElem?_drop, List.getElem?_take, if_pos (by omega)]

theorem rd_cut (hT : TyOK P ty) {e : TypeId} {rows : List (List PT)} {l h : Nat} (hlh : l ≤ h) (hh : h ≤ rows.length) {fh : Path → Value} {cap : Nat} {A : Option Addr} (hfh : fh [] = .slice A rows.length cap)
    (hnode : ∀ p e' rows', At p (.list e rows) = some (e', rows') → RdNode P E e' rows' (fun i j => fh (p ++ [(i, j)])) (fh p)) :
    Rd P E (.list e ((rows.take h).drop l)) (.slice (if cap = l then A else A.map (·.add (l * P.cellsOf e))) (h - l) (cap - l)) := by
  refine ⟨fun p => match p with | [] => .slice (if cap = l then A else A.map (·.add (l * P.cellsOf e))) (h - l) (cap - l) | (i, j) :: p => fh ((l + i, j) :: p), rfl, fun p e' rows' hp => ?_⟩
  have hlen : ((rows.take h).drop l).length = h - l := by simp; omega
  cases p with
  | nil =>
    simp only [At, Option.some.injEq, Prod.mk.injEq] at hp
    obtain ⟨rfl, rfl⟩ := hp
    obtain ⟨A', cap', hv, hc1, hc2, hr⟩ := hnode [] e rows rfl
    rw [hfh] at hv
    injection hv with e1 _ e3
    subst e1
    subst e3
    refine ⟨_, _, by rw [hlen], by rw [hlen]; omega, by omega, ?_⟩
    rcases hr with h0 | ⟨b, o, rfl, hrows⟩
    · subst h0; simp
    · by_cases hz : h - l = 0
      · left; exact List.eq_nil_of_length_eq_zero (by omega)
      · right
        refine ⟨b, o + l * P.cellsOf e, ?_, fun i r hr => ?_⟩
        · rw [if_neg (by omega)]; simp [add_off]
        · rw [List.getElem?_drop, List.getElem?_take] at hr
          split at hr
          · obtain ⟨h1, h2⟩ := hrows (l + i) r hr
            refine ⟨h1, fun j c hc => ?_⟩
            obtain ⟨u, h3, h4⟩ := h2 j c hc
            refine ⟨u, ?_, h4⟩
            rw [show o + l * P.cellsOf e + (i * P.cellsOf e + j) = o + ((l + i) * P.cellsOf e + j) by rw [Nat.add_mul]; omega]
            exact h3
          · cases hr
  | cons ij p =>
    obtain ⟨i, j⟩ := ij
    have hi : i < h - l := by
      rcases Nat.lt_or_ge i (h - l) with h' | h'
      · exact h'
      · simp only [At] at hp
        have hz : ((rows.take h).drop l)[i]? = none := List.getElem?_eq_none (by rw [hlen]; exact h')
        rw [hz] at hp
        simp at hp
    rw [At_cut hi] at hp
    exact hnode _ e' rows' hp

theorem gives_slice (hT : TyOK P ty) (h : Rel P E g s a w) {o : Oper} {t : TypeId} {x : Operand} {lo hi : Option Operand} {r : VV} (ho : o.op = .slice t x lo hi none)
    (hb : vSlice ty s t (ev s x) (lo.map (ev s)) (hi.map (ev s)) = some r) : Gives P E g s a w o r := by
  have hx := ev_rel h x
  have hev := fun y => ev_rel h y
  suffices hh : ∃ v, (Instr.sliceAt t (a.eval x) (lo.map a.eval) (hi.map a.eval) none).run P w = .ok v w ∧ VRel P E s.H g r v by
    obtain ⟨v, h1, h2⟩ := hh
    exact ⟨v, by simp [execOp, ho, h1], h2⟩
  generalize a.eval x = X at *
  generalize ev s x = vx at *
  unfold vSlice at hb
  split at hb
  · rename_i b
    obtain rfl : X = .string b := hx
    split at hb
    · rename_i l hh hl hhi
      split at hb
      · rename_i hc
        obtain ⟨c1, c2, c3⟩ := hc
        have hu := isStr_spec hT c3
        have h' := Option.some.inj hb
        rw [← h']
        have hr := run_sliceBounds (P := P) (w := w) (isS := false) (bound_spec hev hl) (bound_spec hev hhi) c1 c2
        exact ⟨.string (b.extract l hh), by simp [Instr.sliceAt, Instr.slice, run_underlying hu, hr], rfl⟩
      · cases hb
    · cases hb
  · rename_i e rows
    split at hb
    · rename_i e' _ _ _ ht
      have hu : P.underlying t = some (.slice e') := (hT t _ ht).desc
      split at hb
      · rename_i l hh hl hhi
        split at hb
        · rename_i hc
          obtain ⟨c1, c2, rfl, c4⟩ := hc
          have h' := Option.some.inj hb
          rw [← h']
          obtain ⟨fh, hfh, hnode⟩ := hx
          obtain ⟨A, cap, hv, hc1, hc2, hrr⟩ := hnode [] e' rows rfl
          rw [hfh] at hv
          subst hv
          have hr := run_sliceBounds (P := P) (w := w) (isS := true) (bound_spec hev hl) (bound_spec hev hhi) c1 (by omega : hh ≤ cap)
          have hs1 := run_size' (w := w) hT c4
          exact ⟨.slice (if cap = l then A else A.map (·.add (l * P.cellsOf e'))) (hh - l) (cap - l), by simp [Instr.sliceAt, Instr.slice, run_underlying hu, hr, hs1], rd_cut hT c1 c2 hfh hnode⟩
        · cases hb
      · cases hb
    · cases hb
  · rename_i T n
    split at hb
    · rename_i e _ _ _ ht
      have hu : P.underlying t = some (.slice e) := (hT t _ ht).desc
      split at hb
      · rename_i e' rows hroot
        split at hb
        · rename_i hh hl hhi
          split at hb
          · rename_i hc
            obtain ⟨c1, c2, c3⟩ := hc
            have h' := Option.some.inj hb
            rw [← h']
            obtain ⟨hlt, hone, hv⟩ := hx
            have hv := hv (by simp [hroot, Ent.isRoot])
            subst hv
            have hcap : ∃ A cap, g.hd T [] = .slice A rows.length cap ∧ rows.length ≤ cap := by
              rcases h.heap.node T e' rows hroot [] e' rows rfl with ⟨h0, hnil⟩ | ⟨b, cap, cur, hhd, _, _, _, hcap, _⟩
              · exact ⟨none, 0, by rw [h0, hnil]; rfl, by simp [hnil]⟩
              · exact ⟨_, cap, hhd, hcap⟩
            obtain ⟨A, cap, hhd, hcap⟩ := hcap
            have hr := run_sliceBounds (P := P) (w := w) (isS := true) (len := n) (bound_spec hev hl) (bound_spec hev hhi) (Nat.zero_le _) (by omega : hh ≤ cap)
            have hs1 := run_size' (w := w) hT c3
            rw [hhd]
            simp only [cutv]
            refine ⟨.slice A hh cap, ?_, hlt, rfl, fun _ => by rw [hhd]; rfl⟩
            simp only [Instr.sliceAt, Sem.run_bind, run_underlying hu, Result.andThen_ok, Instr.slice, hr, hs1, Sem.run_pure, Nat.sub_zero, Nat.zero_mul]
            congr 2
            split
            · rfl
            · cases A with
              | none => rfl
              | some ad => simp [Addr.add]
          · cases hb
        · cases hb
      · cases hb
    · cases hb
  · rename_i T j
    split at hb
    · rename_i len e _ _ _ ht
      have hu : P.underlying t = some (.array len e) := (hT t _ ht).desc
      split at hb
      · rename_i h1 h2
        have hlo : lo = none := by simpa using h1
        have hhi : hi = none := by simpa using h2
        subst hlo
        subst hhi
        split at hb
        · rename_i hc
          obtain ⟨c1, c2, c3, c4⟩ := hc
          have h' := Option.some.inj hb
          rw [← h']
          obtain ⟨hsn, _, hv⟩ := hx
          have hv := hv c1
          subst hv
          obtain ⟨d, hd, hsz⟩ := sizeT_spec hT (t := e) (by omega)
          have hs1 := (hT _ d hd).run_size w
          have hcell : P.cellsOf e = 1 := by rw [(hT _ d hd).cells]; omega
          refine ⟨.slice (some ⟨(g.bx T).1, (g.bx T).2 + j, none⟩) len len, ?_, hsn, rfl, ⟨hcell, by simp only [maxLen]; omega⟩, fun _ => rfl⟩
          have hne : ¬ len = 0 := by omega
          simp [Instr.sliceAt, run_underlying hu, Instr.sureAddr, Instr.sliceBounds, hs1, hne, Addr.add]
        · cases hb
      · cases hb
    · cases hb
  · cases hb
end
end Go.Proofs.Ytclljpdcpcolpaa
