/- A descriptor that is not decided lies over the first of its objects (plain). -/
import Derived.Test.YtchkbgekmoileaaMHa
namespace Go.Proofs.Ytchkbgekmoileaa
open Go Go.RowKit
set_option linter.unusedVariables false
set_option linter.unusedSimpArgs false
set_option maxRecDepth 100000
set_option maxHeartbeats 4000000
attribute [local irreducible] VWP vops vdraw contV contD CallK Guard GuardV NextL Puts Runs RetOK RetQ RetO RetQO thenQ blockQ

theorem lies_set {s : StoreD} {o : Nat} {h x : HeadD} (ho : s.heads[o]? = some h) {ds : List DescS} {k o' : Nat} : LiesOn ⟨s.heads.set o x, ds⟩ k o' ↔ if o' = o then x.desc = k else LiesOn s k o' := by
  have hl := (List.getElem?_eq_some_iff.1 ho).1
  by_cases c : o' = o
  · subst c
    rw [if_pos rfl]
    unfold LiesOn
    simp only
    rw [List.getElem?_set_self hl]
    constructor
    · rintro ⟨h, h1, h2⟩; cases h1; exact h2
    · intro h; exact ⟨x, rfl, h⟩
  · rw [if_neg c]
    unfold LiesOn
    simp only
    rw [List.getElem?_set_ne (Ne.symm c)]
theorem liesAt {s : StoreD} {o k : Nat} {h : HeadD} (ho : s.heads[o]? = some h) : LiesOn s k o ↔ h.desc = k := by
  constructor
  · rintro ⟨h', h1, h2⟩; rw [ho] at h1; cases h1; exact h2
  · intro c; exact ⟨h, ho, c⟩

theorem frP_zero {s : StoreD} {f : FrameD} {p : Int} (h1 : p = 1 → ∀ (k : Nat) (d : DescS), f.desc = k → s.descs[k]? = some d → d.status = 0) (h2 : p ≠ 2) (h4 : p = 4 → ∀ (k : Nat) (d : DescS), f.desc = k → s.descs[k]? = some d → d.status ≠ 0) (h5 : p ≠ 5) : FrP s ⟨f.desc, p, 0⟩ :=
  ⟨fun k d hk hd hp => ⟨h1 hp k d hk hd, fun i e _ hi => absurd hi (by show ¬ (i : Int) < 0; omega)⟩, fun k d hk hd hp => absurd hp h2, fun k d hk hd hp => ⟨h4 hp k d hk hd, fun i e _ hi => absurd hi (by show ¬ (i : Int) < 0; omega)⟩, fun k d hk hd hp => absurd hp h5⟩
theorem frP_lay {s : StoreD} {f : FrameD} {k j : Nat} {d : DescS} (hk : f.desc = k) (hd : s.descs[k]? = some d) (hj : f.place = j) (hp : f.phase = 1) (hst : d.status = 0) (hl : ∀ (i : Nat) (e : EntS), d.entries[i]? = some e → i ≤ j → LiesOn s k e.object.toNat) : FrP s (onwardM d.entries.length f 2) := by
  have same : ∀ (k' : Nat) (d' : DescS), f.desc = k' → s.descs[k']? = some d' → k' = k ∧ d' = d := fun k' d' h1 h2 => by
    have : k' = k := by omega
    subst this
    rw [hd] at h2
    exact ⟨rfl, (Option.some.inj h2).symm⟩
  unfold onwardM
  split
  · refine ⟨fun k' d' h1 h2 _ => ?_, fun k' d' h1 h2 h3 => ?_, fun k' d' h1 h2 h3 => ?_, fun k' d' h1 h2 h3 => ?_⟩
    · obtain ⟨rfl, rfl⟩ := same k' d' h1 h2
      exact ⟨hst, fun i e he hi => hl i e he (by simp only at hi; omega)⟩
    · simp only at h3; omega
    · simp only at h3; omega
    · simp only at h3; omega
  · rename_i hn
    refine ⟨fun k' d' h1 h2 h3 => ?_, fun k' d' h1 h2 h3 h4 => ?_, fun k' d' h1 h2 h3 => ?_, fun k' d' h1 h2 h3 => ?_⟩
    · simp only at h3; omega
    · obtain ⟨rfl, rfl⟩ := same k' d' h1 h2
      exact fun i e he => hl i e he (by have := (List.getElem?_eq_some_iff.1 he).1; omega)
    · simp only at h3; omega
    · simp only at h3; omega
theorem frP_free {s : StoreD} {f : FrameD} {k j : Nat} {d : DescS} (hk : f.desc = k) (hd : s.descs[k]? = some d) (hj : f.place = j) (hp : f.phase = 4) (hst : d.status ≠ 0) (hl : ∀ (i : Nat) (e : EntS), d.entries[i]? = some e → i ≤ j → ¬ LiesOn s k e.object.toNat) : FrP s (onwardM d.entries.length f 5) := by
  have same : ∀ (k' : Nat) (d' : DescS), f.desc = k' → s.descs[k']? = some d' → k' = k ∧ d' = d := fun k' d' h1 h2 => by
    have : k' = k := by omega
    subst this
    rw [hd] at h2
    exact ⟨rfl, (Option.some.inj h2).symm⟩
  unfold onwardM
  split
  · refine ⟨fun k' d' h1 h2 h3 => ?_, fun k' d' h1 h2 h3 => ?_, fun k' d' h1 h2 h3 => ?_, fun k' d' h1 h2 h3 => ?_⟩
    · simp only at h3; omega
    · simp only at h3; omega
    · obtain ⟨rfl, rfl⟩ := same k' d' h1 h2
      exact ⟨hst, fun i e he hi => hl i e he (by simp only at hi; omega)⟩
    · simp only at h3; omega
  · rename_i hn
    refine ⟨fun k' d' h1 h2 h3 => ?_, fun k' d' h1 h2 h3 h4 => ?_, fun k' d' h1 h2 h3 => ?_, fun k' d' h1 h2 h3 => ?_⟩
    · simp only at h3; omega
    · simp only at h3; omega
    · simp only at h3; omega
    · obtain ⟨rfl, rfl⟩ := same k' d' h1 h2
      exact ⟨hst, fun i e he => hl i e he (by have := (List.getElem?_eq_some_iff.1 he).1; omega)⟩

/-- A descriptor that is not decided lies over the first of its objects, whoever drives. -/
theorem dstep_pre {s : StoreD} {f : FrameD} (hS : StoreP s) (hf : frmB s f = true) (hP : PreP s) (hF : FrP s f) : PreP (driveF s f).1 ∧ FrP (driveF s f).1 (driveF s f).2.1 := by
  obtain ⟨k, d, j, e, o, h, ha⟩ := at_ex hS hf
  rw [driveF_at ha]
  obtain ⟨a1, a2, a3, a4, a5, a6⟩ := ha
  have hkl := (List.getElem?_eq_some_iff.1 a2).1
  have hjl := (List.getElem?_eq_some_iff.1 a4).1
  have hfd := hS.2.2.2.1 d (List.mem_of_getElem? a2)
  obtain ⟨v1, v2, v3, v4, v5⟩ := head_desc hS a6
  have heo : e.object.toNat = o := by omega
  have same : ∀ (k' : Nat) (d' : DescS), f.desc = k' → s.descs[k']? = some d' → k' = k ∧ d' = d := fun k' d' h1 h2 => by
    have : k' = k := by omega
    subst this
    rw [a2] at h2
    exact ⟨rfl, (Option.some.inj h2).symm⟩
  have obj : ∀ (i : Nat) (e' : EntS), d.entries[i]? = some e' → (e'.object.toNat = o ↔ i = j) := fun i e' he => by
    obtain ⟨o', h1, h2⟩ := fits_obj hfd he
    constructor
    · intro c
      exact obj_inj hfd.1 he a4 (by omega)
    · rintro rfl
      rw [a4] at he
      cases he
      exact heo
  unfold driveM
  split
  · rename_i p0
    refine ⟨hP, frP_zero (fun c k' d' h1 h2 => ?_) (by split <;> omega) (fun c k' d' h1 h2 => ?_) (by split <;> omega)⟩
    · obtain ⟨rfl, rfl⟩ := same k' d' h1 h2
      split at c
      · assumption
      · omega
    · obtain ⟨rfl, rfl⟩ := same k' d' h1 h2
      split at c
      · omega
      · assumption
  rename_i p0
  split
  · rename_i p1
    obtain ⟨hst, hlaid⟩ := hF.p1 k d a1 a2 p1
    split
    · rename_i q1
      refine ⟨hP, frP_lay a1 a2 a3 p1 hst fun i e' he hi => ?_⟩
      rcases Nat.lt_or_ge i j with c | c
      · exact hlaid i e' he (by omega)
      · have : i = j := by omega
        rw [(obj i e' he).2 this]
        exact (liesAt a6).2 (by omega)
    rename_i q1
    split
    · exact ⟨hP, frP_zero (by omega) (by omega) (by omega) (by omega)⟩
    rename_i q2
    split
    · exact ⟨hP, frP_zero (by omega) (by omega) (by omega) (by omega)⟩
    · have hlies : ∀ k' o', LiesOn ⟨s.heads.set o ⟨h.value, h.version, f.desc⟩, s.descs⟩ k' o' ↔ if o' = o then f.desc = (k' : Int) else LiesOn s k' o' := fun k' o' => lies_set a6
      have hup : ∀ k' o', LiesOn s k' o' → LiesOn ⟨s.heads.set o ⟨h.value, h.version, f.desc⟩, s.descs⟩ k' o' := fun k' o' hl => by
        rw [hlies]
        split
        · rename_i c
          rw [c, liesAt a6] at hl
          omega
        · exact hl
      refine ⟨fun k' d' hd' hs' i1 i2 e1 e2 h1 h2 hlt hl => ?_, frP_lay (s := ⟨s.heads.set o ⟨h.value, h.version, f.desc⟩, s.descs⟩) a1 a2 a3 p1 hst fun i e' he hi => ?_⟩
      · rw [hlies] at hl
        split at hl
        · obtain ⟨rfl, rfl⟩ := same k' d' hl hd'
          rename_i c
          have hi2 := (obj i2 e2 h2).1 c
          exact hup _ _ (hlaid i1 e1 h1 (by omega))
        · exact hup _ _ (hP k' d' hd' hs' i1 i2 e1 e2 h1 h2 hlt hl)
      · rcases Nat.lt_or_ge i j with c | c
        · exact hup _ _ (hlaid i e' he (by omega))
        · have : i = j := by omega
          rw [hlies, if_pos ((obj i e' he).2 this)]
          exact a1
  rename_i p1
  split
  · rename_i p2
    split
    · rename_i q1
      refine ⟨fun k' d' hd' hs' i1 i2 e1 e2 h1 h2 hlt hl => ?_, frP_zero (by omega) (by omega) (fun _ k' d' h1 h2 => ?_) (by omega)⟩
      · simp only at hd'
        rw [desc_set a2] at hd'
        split at hd'
        · cases hd'
          simp only at hs'
          split at hs' <;> omega
        · exact hP k' d' hd' hs' i1 i2 e1 e2 h1 h2 hlt hl
      · simp only at h2
        rw [desc_set a2] at h2
        split at h2
        · cases h2
          simp only
          split <;> omega
        · omega
    · rename_i q1
      refine ⟨hP, frP_zero (by omega) (by omega) (fun _ k' d' h1 h2 => ?_) (by omega)⟩
      obtain ⟨rfl, rfl⟩ := same k' d' h1 h2
      exact q1
  rename_i p2
  split
  · rename_i p4
    obtain ⟨hst, hfree⟩ := hF.p4 k d a1 a2 p4
    split
    · rename_i q1
      have hm : (freeH d e h).desc = -1 := by unfold freeH; split <;> rfl
      have hlies : ∀ k' o', LiesOn ⟨s.heads.set o (freeH d e h), s.descs⟩ k' o' ↔ if o' = o then (freeH d e h).desc = (k' : Int) else LiesOn s k' o' := fun k' o' => lies_set a6
      have hdown : ∀ k' o', LiesOn ⟨s.heads.set o (freeH d e h), s.descs⟩ k' o' → LiesOn s k' o' ∧ o' ≠ o := fun k' o' hl => by
        rw [hlies] at hl
        split at hl
        · omega
        · rename_i c; exact ⟨hl, c⟩
      refine ⟨fun k' d' hd' hs' i1 i2 e1 e2 h1 h2 hlt hl => ?_, frP_free (s := ⟨s.heads.set o (freeH d e h), s.descs⟩) a1 a2 a3 p4 hst fun i e' he hi hl => ?_⟩
      · have h3 := hP k' d' hd' hs' i1 i2 e1 e2 h1 h2 hlt (hdown _ _ hl).1
        rw [hlies]
        split
        · rename_i c
          rw [c, liesAt a6] at h3
          obtain ⟨rfl, rfl⟩ := same k' d' (by omega) hd'
          exact absurd hs' hst
        · exact h3
      · obtain ⟨h1, h2⟩ := hdown _ _ hl
        rcases Nat.lt_or_ge i j with c | c
        · exact hfree i e' he (by omega) h1
        · exact h2 ((obj i e' he).2 (by omega))
    · rename_i q1
      refine ⟨hP, frP_free a1 a2 a3 p4 hst fun i e' he hi hl => ?_⟩
      rcases Nat.lt_or_ge i j with c | c
      · exact hfree i e' he (by omega) hl
      · rw [(obj i e' he).2 (by omega), liesAt a6] at hl
        omega
  · exact ⟨hP, hF⟩
end Go.Proofs.Ytchkbgekmoileaa
