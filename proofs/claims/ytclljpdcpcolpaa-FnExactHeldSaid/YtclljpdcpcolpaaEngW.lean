/- The value-level engine, twenty-third part: from a law on values to its row. -/
import Derived.Test.YtclljpdcpcolpaaEngV
import Derived.ProofKit
import Derived.WideKeyArgs
namespace Go.Proofs.Ytclljpdcpcolpaa
open Go Go.RowKit Go.WideShapes Go.ChangeShapes
set_option linter.unusedVariables false
set_option linter.unusedSimpArgs false

def oneVV : List PT → VV
  | [c] => c.vv
  | _ => .any
/-- An argument, as it is handed over. -/
def argVV (ty : Ty) (t : TypeId) (cells : List PT) : VV :=
  match ty t with
  | some ⟨.st _, _, _, _⟩ => .agg (cells.map PT.vv)
  | some ⟨.ar _ _, _, _, _⟩ => .agg (cells.map PT.vv)
  | _ => oneVV cells

section
variable {P : Program} {W W' : World} {ty : Ty} {H : Type} {enc : TypeId × Value → H} {held : Bool} {sp : Nat → Bool}

theorem arg_read (hT : TyOK P ty) {n : Nat} {t : TypeId} {base : Nat} {v : Value} {d : DataW H} {ps : List MemPlace} (hp : plainT ty n t = true) (hv : Value.okWide P W .any base t v) (h : DataW.Trod enc P W 0 sp held t v d ps) :
    ∃ cells, PTy ty n t cells ∧ ARel P (botEnv W) (fun _ => .dead) Gh.nil (argVV ty t cells) v := by
  obtain ⟨fuel, h⟩ := h
  obtain ⟨cells, h1, h2, h3, h4⟩ := trod_read hT n t fuel _ _ hp h
  refine ⟨cells, h3, ?_⟩
  have hone : (∀ cs, v ≠ .agg cs) → sizeT ty t = 1 → oneVV cells = argVV ty t cells → ARel P (botEnv W) (fun _ => .dead) Gh.nil (argVV ty t cells) v := by
    intro hna hs he
    have hc : v.cells.toList = [v] := by cases v <;> first | rfl | exact absurd rfl (hna _)
    rw [hc] at h1 h4
    rw [← he]
    match cells, h1 with
    | [c], _ => exact arel_of_crel (rd_vv (h4 0 c v rfl rfl))
  cases n with
  | zero => cases hp
  | succ n =>
    unfold plainT at hp
    split at hp
    · rename_i k n' b z ht
      have hu : P.underlying t = some (.int k) := (hT t _ ht).desc
      refine hone (fun cs hh => ?_) (by simp only [sizeT, ht]; simpa using hp) (by simp only [argVV, ht])
      subst hh; simp [Value.okWide, hu, Cell.okWide, Cell.ok] at hv
    · rename_i n' b z ht
      have hu : P.underlying t = some .bool := (hT t _ ht).desc
      refine hone (fun cs hh => ?_) (by simp only [sizeT, ht]; simpa using hp) (by simp only [argVV, ht])
      subst hh; simp [Value.okWide, hu, Cell.okWide, Cell.ok] at hv
    · rename_i n' b z ht
      have hu : P.underlying t = some .string := (hT t _ ht).desc
      refine hone (fun cs hh => ?_) (by simp only [sizeT, ht]; simpa using hp) (by simp only [argVV, ht])
      subst hh; simp [Value.okWide, hu, Cell.okWide, Cell.ok] at hv
    · rename_i e n' b z ht
      have hu : P.underlying t = some (.slice e) := (hT t _ ht).desc
      simp only [Bool.and_eq_true, beq_iff_eq] at hp
      refine hone (fun cs hh => ?_) (by simp only [sizeT, ht]; exact hp.1.1) (by simp only [argVV, ht])
      subst hh; simp [Value.okWide, hu, Cell.okWide, Cell.ok] at hv
    · rename_i fs n' b z ht
      obtain ⟨F, hu, hF⟩ : ∃ F, P.underlying t = some (.struct F) ∧ F.toList.map (fun f => (f.offset, f.type)) = fs := (hT t _ ht).desc
      obtain ⟨cs, rfl, _⟩ : ∃ cs, v = .agg cs ∧ cs.size = P.cellsOf t ∧ Row.okWide P W .any base t cs := by simpa [Value.okWide, hu] using hv
      simp only [argVV, ht]
      refine ⟨cs.toList, by simp, ?_, fun j c u hc hu' => ?_⟩
      · have : cells.length = cs.toList.length := h1
        simpa using this.symm
      · simp only [List.getElem?_map, Option.map_eq_some_iff] at hc
        obtain ⟨c0, hc0, rfl⟩ := hc
        exact rd_vv (h4 j c0 u hc0 hu')
    · rename_i m e n' b z ht
      have hu : P.underlying t = some (.array m e) := (hT t _ ht).desc
      obtain ⟨cs, rfl, _⟩ : ∃ cs, v = .agg cs ∧ cs.size = P.cellsOf t ∧ Row.okWide P W .any base t cs := by simpa [Value.okWide, hu] using hv
      simp only [argVV, ht]
      refine ⟨cs.toList, by simp, ?_, fun j c u hc hu' => ?_⟩
      · have : cells.length = cs.toList.length := h1
        simpa using this.symm
      · simp only [List.getElem?_map, Option.map_eq_some_iff] at hc
        obtain ⟨c0, hc0, rfl⟩ := hc
        exact rd_vv (h4 j c0 u hc0 hu')
    · cases hp

theorem below_of (h : Frm (botEnv W) W') : Below W.heap.size W W' := ⟨h.os, h.tape, h.output, h.size, fun k hk => frm_bot h hk⟩

theorem stays_one {t : TypeId} (hl : laidOutB P = true) (hr : P.readableRec t = true) (hrow : t < P.types.size) {v : Value} {d : DataW H} {ps : List MemPlace} (h : DataW.Trod enc P W 0 (fun _ => true) true t v d ps) (hb : Below W.heap.size W W')
    (hlt : ∀ x ∈ ps, x.block < W.heap.size) (hs : ∀ x ∈ ps, sp x.block = true) : DataW.Trod enc P W' 0 sp true t v d ps :=
  Go.WideElems.Trod_stays hl hr hrow h (fun x hx => hb.same (hlt x hx)) hs

/-- The row's last step, where new blocks may have come and nothing below has turned. -/
theorem post_below {f : Func} {s : ChangeSpec} {apart fresh handsOn again : Bool} {args : Array Value} {v : Value} {ds gs : List (DataW H)} {before pa pv : List MemPlace}
    (hW : DataW.Whole enc P f.params.toList s.vars apart W args.toList ds gs before)
    (hres : ∀ (b : Nat) (sp : Nat → Bool) (hd : Bool), DataW.TrodAll enc P W' b sp hd f.resultTypes.toList (v.resultList f.resultTypes.size) (s.fn H (ds ++ gs)).results [])
    (hargs : ∀ sp : Nat → Bool, (∀ p ∈ before, sp p.block = true) → DataW.TrodAll enc P W' 0 sp true f.params.toList args.toList (s.fn H (ds ++ gs)).args pa)
    (hvars : ∀ sp : Nat → Bool, (∀ p ∈ before, sp p.block = true) → DataW.TrodVars enc P W' sp s.vars (s.fn H (ds ++ gs)).vars pv)
    (hps : before = pa ++ pv) (hb : Below W.heap.size W W')
    (hok : ∀ (j : Nat) (t : TypeId) (r : Value), f.resultTypes[j]? = some t → (v.resultList f.resultTypes.size)[j]? = some r → Value.okWide P W' .any 0 t r) :
    s.post enc P f apart fresh handsOn again W args v W' := by
  have hlt : ∀ p ∈ before, p.block < W.heap.size := fun p hp => hW.lt p hp
  have hold : ∀ p ∈ before, (fun b => decide (b < W.heap.size)) p.block = true := fun p hp => by simpa using hlt p hp
  refine ⟨ds, gs, before, [], pa, pv, hW, hres _ _ _, hargs _ hold, hvars _ hold, World.keptBut_mono (fun p hp => ⟨hp, by rw [hps, List.mem_append] at hp; exact Or.inr hp⟩) (hb.frame (· ∈ before)), fun _ => ?_⟩
  obtain ⟨_, _, _, _, _, hz, hn⟩ := hW
  refine ⟨hok, _, _, ([] ++ pa) ++ pv, ⟨[] ++ pa, pv, trodAll_append (hargs _ (fun _ _ => rfl)) (hres _ _ _), hvars _ (fun _ _ => rfl), rfl, fun b off hp => ?_, fun ha => ?_⟩, fun p hp _ => ?_⟩
  · have hin : MemPlace.cell b off ∈ before := by rw [hps]; simpa using hp
    rw [hb.frozen (hlt _ hin)]
    exact hz b off hin
  · have := hn ha
    rw [hps] at this
    simpa using this
  · rw [hps]
    simpa using hp
end
end Go.Proofs.Ytclljpdcpcolpaa
