/- Helping: what one step of a stack gives, and what keeps standing (plain). -/
import Derived.Test.YtchkbgekmoileaaLG
import Derived.Test.YtchkbgekmoileaaYB
namespace Go.Proofs.Ytchkbgekmoileaa
open Go Go.RowKit
set_option linter.unusedVariables false
set_option linter.unusedSimpArgs false
set_option maxRecDepth 100000
set_option maxHeartbeats 4000000
attribute [local irreducible] VWP vops vdraw contV contD CallK Guard GuardV NextL Puts Runs RetOK RetQ RetO RetQO thenQ blockQ

/-- What a store must have so that nothing in a drive goes astray. -/
def DrvS (s : StoreD) : Prop := (∀ d ∈ s.descs, 1 ≤ d.entries.length ∧ ∀ e ∈ d.entries, 0 ≤ e.object ∧ e.object < s.heads.length) ∧
  ∀ h ∈ s.heads, 0 ≤ h.version ∧ h.version ≤ 1000000 ∧ -1 ≤ h.desc ∧ h.desc < s.descs.length
/-- What a frame must have. -/
def DrvF (s : StoreD) (f : FrameD) : Prop := ∃ (k : Nat) (d : DescS), f.desc = k ∧ s.descs[k]? = some d ∧ 0 ≤ f.place ∧ f.place < d.entries.length
theorem drv_at {s : StoreD} {f : FrameD} (hs : DrvS s) (hf : DrvF s f) : ∃ k d j e o h, AtP s f k d j e o h ∧ 0 ≤ h.version ∧ h.version ≤ 1000000 ∧ -1 ≤ h.desc ∧ h.desc < s.descs.length := by
  obtain ⟨k, d, hk, hd, h0, h1⟩ := hf
  obtain ⟨j, hj⟩ : ∃ j : Nat, f.place = j := ⟨f.place.toNat, by omega⟩
  obtain ⟨e, he⟩ : ∃ e, d.entries[j]? = some e := ⟨_, List.getElem?_eq_getElem (by omega)⟩
  have hob := (hs.1 d (List.mem_of_getElem? hd)).2 e (List.mem_of_getElem? he)
  obtain ⟨o, ho⟩ : ∃ o : Nat, e.object = o := ⟨e.object.toNat, by omega⟩
  obtain ⟨h, hh⟩ : ∃ h, s.heads[o]? = some h := ⟨_, List.getElem?_eq_getElem (by omega)⟩
  have hv := hs.2 h (List.mem_of_getElem? hh)
  exact ⟨k, d, j, e, o, h, ⟨hk, hd, hj, he, ho, hh⟩, hv⟩
theorem drv_head {s : StoreD} {o : Nat} {h : HeadD} (hs : DrvS s) (hv : 0 ≤ h.version ∧ h.version ≤ 1000000 ∧ -1 ≤ h.desc ∧ h.desc < s.descs.length) : DrvS ⟨s.heads.set o h, s.descs⟩ := by
  refine ⟨fun d hd => ?_, fun x hx => ?_⟩
  · simp only [List.length_set]
    exact hs.1 d hd
  · rcases List.mem_or_eq_of_mem_set hx with hx | rfl
    · exact hs.2 x hx
    · exact hv
theorem drv_desc {s : StoreD} {k : Nat} {d : DescS} {st : Int} (hs : DrvS s) (hd : s.descs[k]? = some d) : DrvS ⟨s.heads, s.descs.set k ⟨d.owner, st, d.entries⟩⟩ := by
  refine ⟨fun x hx => ?_, fun x hx => ?_⟩
  · rcases List.mem_or_eq_of_mem_set hx with hx | rfl
    · exact hs.1 x hx
    · exact hs.1 d (List.mem_of_getElem? hd)
  · simp only [List.length_set]
    exact hs.2 x hx
theorem drvF_heads {s : StoreD} {hs' : List HeadD} {f : FrameD} (hf : DrvF s f) : DrvF ⟨hs', s.descs⟩ f := hf
theorem drvF_desc {s : StoreD} {k : Nat} {d : DescS} {st : Int} {f : FrameD} (hd : s.descs[k]? = some d) (hf : DrvF s f) : DrvF ⟨s.heads, s.descs.set k ⟨d.owner, st, d.entries⟩⟩ f := by
  obtain ⟨k', d', h1, h2, h3, h4⟩ := hf
  by_cases hkk : k = k'
  · subst hkk
    rw [hd] at h2
    cases h2
    exact ⟨k, _, h1, List.getElem?_set_self (List.getElem?_eq_some_iff.1 hd).1, h3, h4⟩
  · exact ⟨k', d', h1, by rw [← h2]; exact List.getElem?_set_ne hkk, h3, h4⟩
theorem drvF_zero {s : StoreD} {f : FrameD} {k : Nat} {d : DescS} {p : Int} (hs : DrvS s) (hk : f.desc = k) (hd : s.descs[k]? = some d) : DrvF s ⟨f.desc, p, 0⟩ :=
  ⟨k, d, hk, hd, Int.le_refl _, by have := (hs.1 d (List.mem_of_getElem? hd)).1; show (0 : Int) < _; omega⟩
theorem drvF_on {s : StoreD} {f : FrameD} {k : Nat} {d : DescS} {p : Int} (hs : DrvS s) (hk : f.desc = k) (hd : s.descs[k]? = some d) (h0 : 0 ≤ f.place) (h1 : f.place < d.entries.length) : DrvF s (onwardM d.entries.length f p) := by
  unfold onwardM
  split
  · refine ⟨k, d, hk, hd, ?_, ?_⟩
    · simp only
      omega
    · simp only
      omega
  · exact drvF_zero hs hk hd
/-- What a step keeps. -/
structure StepP (s : StoreD) (f : FrameD) (r : StoreD × FrameD × Int) : Prop where
  st : DrvS r.1
  fr : DrvF r.1 r.2.1
  all : ∀ g, DrvF s g → DrvF r.1 g
  hl : r.1.heads.length = s.heads.length
  dl : r.1.descs.length = s.descs.length
  met : r.2.2 < s.descs.length
  same : 0 ≤ r.2.2 → r.1 = s
theorem driveM_step {s : StoreD} {f : FrameD} {k : Nat} {d : DescS} {j : Nat} {e : EntS} {o : Nat} {h : HeadD} (hs : DrvS s) (hf : DrvF s f) (ha : AtP s f k d j e o h) (hv0 : 0 ≤ h.version) (hv1 : h.version ≤ 1000000) (hd0 : -1 ≤ h.desc) (hd1 : h.desc < s.descs.length) : StepP s f (driveM s f k d e o h) := by
  have hkl := (List.getElem?_eq_some_iff.1 ha.dk).1
  have hjl := (List.getElem?_eq_some_iff.1 ha.ej).1
  have hfj := ha.fj
  have hfk := ha.fk
  have hz := fun p => drvF_zero (p := p) hs ha.fk ha.dk
  have hon := fun p => drvF_on (p := p) hs ha.fk ha.dk (by omega) (by omega)
  have htm := Int.tmod_lt_of_pos (h.version + 1) (b := 1000001) (by omega)
  have htn := Int.tmod_nonneg (a := h.version + 1) 1000001 (by omega)
  have hh := fun (x : HeadD) (hx : 0 ≤ x.version ∧ x.version ≤ 1000000 ∧ -1 ≤ x.desc ∧ x.desc < s.descs.length) => drv_head (o := o) hs hx
  unfold driveM
  split
  · exact ⟨hs, hz _, fun g hg => hg, rfl, rfl, by show (-1 : Int) < _; omega, fun _ => rfl⟩
  split
  · split
    · exact ⟨hs, hon _, fun g hg => hg, rfl, rfl, by show (-1 : Int) < _; omega, fun _ => rfl⟩
    split
    · exact ⟨hs, hz _, fun g hg => hg, rfl, rfl, hd1, fun _ => rfl⟩
    split
    · exact ⟨hs, hz _, fun g hg => hg, rfl, rfl, by show (-1 : Int) < _; omega, fun _ => rfl⟩
    · exact ⟨hh _ ⟨hv0, hv1, by show -1 ≤ f.desc; omega, by show f.desc < _; omega⟩, drvF_heads (hon _), fun g hg => drvF_heads hg, by simp, rfl, by show (-1 : Int) < _; omega, fun hc => absurd (show (0 : Int) ≤ -1 from hc) (by decide)⟩
  split
  · split
    · exact ⟨drv_desc hs ha.dk, drvF_desc ha.dk (hz _), fun g hg => drvF_desc ha.dk hg, rfl, by simp, by show (-1 : Int) < _; omega, fun hc => absurd (show (0 : Int) ≤ -1 from hc) (by decide)⟩
    · exact ⟨hs, hz _, fun g hg => hg, rfl, rfl, by show (-1 : Int) < _; omega, fun _ => rfl⟩
  split
  · split
    · refine ⟨hh _ ?_, drvF_heads (hon _), fun g hg => drvF_heads hg, by simp, rfl, by show (-1 : Int) < _; omega, fun hc => absurd (show (0 : Int) ≤ -1 from hc) (by decide)⟩
      unfold freeH
      split
      · exact ⟨htn, by simp only; omega, by simp only; omega, by simp only; omega⟩
      · exact ⟨hv0, hv1, by simp only; omega, by simp only; omega⟩
    · exact ⟨hs, hon _, fun g hg => hg, rfl, rfl, by show (-1 : Int) < _; omega, fun _ => rfl⟩
  · exact ⟨hs, hf, fun g hg => hg, rfl, rfl, by show (-1 : Int) < _; omega, fun _ => rfl⟩

/-- One step of a descriptor, by what the frame says. -/
def driveF (s : StoreD) (f : FrameD) : StoreD × FrameD × Int := match s.descs[f.desc.toNat]? with
  | none => (s, f, -1)
  | some d => match d.entries[f.place.toNat]? with
    | none => (s, f, -1)
    | some e => match s.heads[e.object.toNat]? with
      | none => (s, f, -1)
      | some h => driveM s f f.desc.toNat d e e.object.toNat h
theorem driveF_at {s : StoreD} {f : FrameD} {k : Nat} {d : DescS} {j : Nat} {e : EntS} {o : Nat} {h : HeadD} (ha : AtP s f k d j e o h) : driveF s f = driveM s f k d e o h := by
  obtain ⟨h1, h2, h3, h4, h5, h6⟩ := ha
  unfold driveF
  rw [h1, Int.toNat_natCast, h2]
  simp only
  rw [h3, Int.toNat_natCast, h4]
  simp only
  rw [h5, Int.toNat_natCast, h6]
theorem driveF_step {s : StoreD} {f : FrameD} (hs : DrvS s) (hf : DrvF s f) : StepP s f (driveF s f) := by
  obtain ⟨k, d, j, e, o, h, ha, h1, h2, h3, h4⟩ := drv_at hs hf
  rw [driveF_at ha]
  exact driveM_step hs hf ha h1 h2 h3 h4
theorem driveM_bnd {s : StoreD} {f : FrameD} {k : Nat} {d : DescS} {e : EntS} {o : Nat} {h : HeadD} (hph : 0 ≤ (driveM s f k d e o h).2.2) : (driveM s f k d e o h).2.1.phase ≠ 5 := by
  unfold driveM at *
  (repeat' split at hph) <;> simp_all
/-- One step of a stack. -/
def helpF (s : StoreD) (fs : List FrameD) : StoreD × List FrameD := match fs.getLast? with
  | none => (s, [])
  | some f => if 0 ≤ (driveF s f).2.2 then (if fs.length = 130 then (s, fs) else (s, fs.dropLast ++ [(driveF s f).2.1, ⟨(driveF s f).2.2, 0, 0⟩]))
    else ((driveF s f).1, if (driveF s f).2.1.phase = 5 then fs.dropLast else fs.dropLast ++ [(driveF s f).2.1])
theorem helpF_nil (s : StoreD) : helpF s [] = (s, []) := rfl
theorem helpF_snoc (s : StoreD) (fs : List FrameD) (f : FrameD) : helpF s (fs ++ [f]) = if 0 ≤ (driveF s f).2.2 then (if fs.length + 1 = 130 then (s, fs ++ [f]) else (s, fs ++ [(driveF s f).2.1, ⟨(driveF s f).2.2, 0, 0⟩]))
    else ((driveF s f).1, if (driveF s f).2.1.phase = 5 then fs else fs ++ [(driveF s f).2.1]) := by
  simp [helpF]
/-- A stack that is right enough. -/
structure HelpI (s : StoreD) (fs : List FrameD) : Prop where
  st : DrvS s
  fr : ∀ f ∈ fs, DrvF s f
  len : fs.length ≤ 130
theorem drvF_new {s : StoreD} (hs : DrvS s) {m : Int} (h0 : 0 ≤ m) (h1 : m < s.descs.length) (p : Int) : DrvF s ⟨m, p, 0⟩ := by
  obtain ⟨k, hk⟩ : ∃ k : Nat, m = k := ⟨m.toNat, by omega⟩
  obtain ⟨d, hd⟩ : ∃ d, s.descs[k]? = some d := ⟨_, List.getElem?_eq_getElem (by omega)⟩
  exact ⟨k, d, hk, hd, Int.le_refl _, by have := (hs.1 d (List.mem_of_getElem? hd)).1; show (0 : Int) < _; omega⟩
structure HelpK (s : StoreD) (fs : List FrameD) (r : StoreD × List FrameD) : Prop where
  inv : HelpI r.1 r.2
  hl : r.1.heads.length = s.heads.length
  dl : r.1.descs.length = s.descs.length
  all : ∀ g, DrvF s g → DrvF r.1 g
theorem helpF_keeps {s : StoreD} {fs : List FrameD} (hi : HelpI s fs) : HelpK s fs (helpF s fs) := by
  rcases List.eq_nil_or_concat fs with rfl | ⟨init, f, rfl⟩
  · exact ⟨⟨hi.st, fun f hf => by simp [helpF_nil] at hf, by simp [helpF_nil]⟩, rfl, rfl, fun g hg => hg⟩
  · rw [List.concat_eq_append] at *
    rw [helpF_snoc]
    have hp := driveF_step hi.st (hi.fr f (by simp))
    have hlen := hi.len
    simp only [List.length_append, List.length_cons, List.length_nil] at hlen
    have hin : ∀ g ∈ init, DrvF s g := fun g hg => hi.fr g (by simp [hg])
    split
    · rename_i hm
      have hsame := hp.same hm
      split
      · exact ⟨hi, rfl, rfl, fun g hg => hg⟩
      · have hfr := hp.fr
        rw [hsame] at hfr
        refine ⟨⟨hi.st, fun g hg => ?_, by simp; omega⟩, rfl, rfl, fun g hg => hg⟩
        simp only [List.mem_append, List.mem_cons, List.not_mem_nil, or_false] at hg
        rcases hg with hg | rfl | rfl
        · exact hin g hg
        · exact hfr
        · exact drvF_new hi.st hm hp.met 0
    · refine ⟨⟨hp.st, fun g hg => ?_, ?_⟩, hp.hl, hp.dl, hp.all⟩
      · simp only at hg
        split at hg
        · exact hp.all g (hin g hg)
        · simp only [List.mem_append, List.mem_cons, List.not_mem_nil, or_false] at hg
          rcases hg with hg | rfl
          · exact hp.all g (hin g hg)
          · exact hp.fr
      · simp only
        split
        · omega
        · simp; omega
/-- So many steps at most: the store, the stack, how many there were. -/
def finF : Nat → StoreD → List FrameD → StoreD × List FrameD × Nat
  | 0, s, fs => (s, fs, 0)
  | m + 1, s, fs => if fs = [] then (s, [], 0) else ((finF m (helpF s fs).1 (helpF s fs).2).1, (finF m (helpF s fs).1 (helpF s fs).2).2.1, (finF m (helpF s fs).1 (helpF s fs).2).2.2 + 1)
theorem finF_keeps : ∀ (m : Nat) {s : StoreD} {fs : List FrameD}, HelpI s fs → HelpK s fs ((finF m s fs).1, (finF m s fs).2.1)
  | 0, s, fs, hi => ⟨hi, rfl, rfl, fun g hg => hg⟩
  | m + 1, s, fs, hi => by
    rw [finF]
    split
    · exact ⟨⟨hi.st, fun f hf => by simp at hf, by simp⟩, rfl, rfl, fun g hg => hg⟩
    · have h1 := helpF_keeps hi
      have h2 := finF_keeps m h1.inv
      exact ⟨h2.inv, by rw [← h1.hl]; exact h2.hl, by rw [← h1.dl]; exact h2.dl, fun g hg => h2.all g (h1.all g hg)⟩
theorem entsN_put {ds : List DescS} {k : Nat} {d d' : DescS} (h : ds[k]? = some d) (he : d'.entries = d.entries) : entsN (ds.set k d') = entsN ds := by
  induction ds generalizing k with
  | nil => rfl
  | cons a ds ih =>
    cases k with
    | zero =>
      simp at h
      subst h
      simp [entsN, he]
    | succ k =>
      simp only [List.set_cons_succ, entsN]
      rw [ih (by simpa using h)]
theorem driveM_keepT {s : StoreD} {f : FrameD} {k : Nat} {d : DescS} {j : Nat} {e : EntS} {o : Nat} {h : HeadD} (ha : AtP s f k d j e o h) (hs : s.tiny) : (driveM s f k d e o h).1.tiny := by
  obtain ⟨h1, h2, h3⟩ := hs
  have hn := fun st => entsN_put (d' := ⟨d.owner, st, d.entries⟩) ha.dk rfl
  unfold driveM
  (repeat' split) <;> simp_all [StoreD.tiny]
theorem helpF_tiny {s : StoreD} {fs : List FrameD} (hi : HelpI s fs) (hs : s.tiny) : (helpF s fs).1.tiny := by
  rcases List.eq_nil_or_concat fs with rfl | ⟨init, f, rfl⟩
  · exact hs
  · rw [List.concat_eq_append] at *
    rw [helpF_snoc]
    obtain ⟨k, d, j, e, o, h, ha, h1, h2, h3, h4⟩ := drv_at hi.st (hi.fr f (by simp))
    have ht := driveM_keepT ha hs
    rw [← driveF_at ha] at ht
    split
    · split <;> exact hs
    · exact ht
theorem finF_tiny : ∀ (m : Nat) {s : StoreD} {fs : List FrameD}, HelpI s fs → s.tiny → (finF m s fs).1.tiny
  | 0, s, fs, hi, hs => hs
  | m + 1, s, fs, hi, hs => by
    rw [finF]
    split
    · exact hs
    · exact finF_tiny m (helpF_keeps hi).inv (helpF_tiny hi hs)
/-- A stack of a store that is right, is right enough. -/
theorem help_of {s : StoreD} {fs : List FrameD} (hS : StoreP s) (hl : fs.length ≤ 130) (hf : ∀ f ∈ fs, frmB s f = true) : HelpI s fs := by
  refine ⟨⟨fun d hd => ?_, fun h hh => ?_⟩, fun f hf' => ?_, hl⟩
  · have hfd := hS.2.2.2.1 d hd
    refine ⟨hfd.1.2.2.2.2.1, fun e he => ?_⟩
    obtain ⟨j, hj⟩ := List.getElem?_of_mem he
    obtain ⟨o, ho, hol⟩ := fits_obj hfd hj
    omega
  · obtain ⟨o, ho⟩ := List.getElem?_of_mem hh
    have hb := hS.2.2.2.2 o h ho
    unfold headB at hb
    simp only [Bool.and_eq_true] at hb
    have hv := hb.1.1.2
    have hd := hb.1.2
    simp [inB] at hv hd
    omega
  · obtain ⟨k, d, j, e, o, h, ha⟩ := at_ex hS (hf f hf')
    have hjl := (List.getElem?_eq_some_iff.1 ha.ej).1
    exact ⟨k, d, ha.fk, ha.dk, by have := ha.fj; omega, by have := ha.fj; omega⟩
end Go.Proofs.Ytchkbgekmoileaa
