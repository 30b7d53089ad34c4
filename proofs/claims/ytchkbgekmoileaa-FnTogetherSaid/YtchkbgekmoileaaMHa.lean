/- Driving a right store by a right frame: what one step does (plain). -/
import Derived.Test.YtchkbgekmoileaaHA
import Derived.Test.YtchkbgekmoileaaSL
namespace Go.Proofs.Ytchkbgekmoileaa
open Go Go.RowKit
set_option linter.unusedVariables false
set_option linter.unusedSimpArgs false
set_option maxRecDepth 100000
set_option maxHeartbeats 4000000
attribute [local irreducible] VWP vops vdraw contV contD CallK Guard GuardV NextL Puts Runs RetOK RetQ RetO RetQO thenQ blockQ

/-- A descriptor lies over an object. -/
def LiesOn (s : StoreD) (k o : Nat) : Prop := ∃ h, s.heads[o]? = some h ∧ h.desc = k
/-- What is not decided lies over the first of its objects. -/
def PreP (s : StoreD) : Prop := ∀ (k : Nat) (d : DescS), s.descs[k]? = some d → d.status = 0 → ∀ (i j : Nat) (ei ej : EntS), d.entries[i]? = some ei → d.entries[j]? = some ej → i < j → LiesOn s k ej.object.toNat → LiesOn s k ei.object.toNat
/-- What a frame knows that drives alone. -/
structure FrP (s : StoreD) (f : FrameD) : Prop where
  p1 : ∀ (k : Nat) (d : DescS), f.desc = k → s.descs[k]? = some d → f.phase = 1 → d.status = 0 ∧ ∀ (i : Nat) (e : EntS), d.entries[i]? = some e → (i : Int) < f.place → LiesOn s k e.object.toNat
  p2 : ∀ (k : Nat) (d : DescS), f.desc = k → s.descs[k]? = some d → f.phase = 2 → d.status = 0 → ∀ (i : Nat) (e : EntS), d.entries[i]? = some e → LiesOn s k e.object.toNat
  p4 : ∀ (k : Nat) (d : DescS), f.desc = k → s.descs[k]? = some d → f.phase = 4 → d.status ≠ 0 ∧ ∀ (i : Nat) (e : EntS), d.entries[i]? = some e → (i : Int) < f.place → ¬ LiesOn s k e.object.toNat
  p5 : ∀ (k : Nat) (d : DescS), f.desc = k → s.descs[k]? = some d → f.phase = 5 → d.status ≠ 0 ∧ ∀ (i : Nat) (e : EntS), d.entries[i]? = some e → ¬ LiesOn s k e.object.toNat

/-! ### A store with one head or one status turned -/
theorem obj_inj {d : DescS} (hd : DescP d) {i j : Nat} {e f : EntS} (he : d.entries[i]? = some e) (hf : d.entries[j]? = some f) (h : e.object = f.object) : i = j := by
  rcases Nat.lt_trichotomy i j with c | c | c
  · have := sorted_lt2 hd.1 c he hf; omega
  · exact c
  · have := sorted_lt2 hd.1 c hf he; omega

theorem head_desc {s : StoreD} (hS : StoreP s) {o : Nat} {h : HeadD} (hh : s.heads[o]? = some h) : inB h.value (-1000000000) 1000000000 = true ∧ 0 ≤ h.version ∧ h.version ≤ 1000000 ∧ -1 ≤ h.desc ∧ h.desc < s.descs.length := by
  have hb := hS.2.2.2.2 o h hh
  unfold headB at hb
  simp only [Bool.and_eq_true] at hb
  have hv := hb.1.1.2
  have hd := hb.1.2
  simp [inB] at hv hd
  exact ⟨hb.1.1.1, by omega, by omega, by omega, by omega⟩
theorem head_in {s : StoreD} (hS : StoreP s) {o k : Nat} {h : HeadD} {d : DescS} (hh : s.heads[o]? = some h) (hk : h.desc = k) (hd : s.descs[k]? = some d) : ∃ (i : Nat) (e : EntS), d.entries[i]? = some e ∧ e.object = o := by
  have hb := hS.2.2.2.2 o h hh
  rw [headB_at hk hd] at hb
  simp only [Bool.and_eq_true, decide_eq_true_eq] at hb
  rcases placeE_cases d.entries o with ⟨h1, _⟩ | ⟨i, e, h1, h2, h3, _⟩
  · omega
  · exact ⟨i, e, h2, h3⟩
theorem headB_of {s : StoreD} {o : Nat} {h : HeadD} (h1 : inB h.value (-1000000000) 1000000000 = true) (h2 : 0 ≤ h.version ∧ h.version ≤ 1000000) (h3 : h.desc = -1 ∨ ∃ (k : Nat) (d : DescS) (i : Nat) (e : EntS), h.desc = k ∧ s.descs[k]? = some d ∧ d.entries[i]? = some e ∧ e.object = o) : headB s o h = true := by
  rcases h3 with h3 | ⟨k, d, i, e, h3, h4, h5, h6⟩
  · rw [headB_neg (by omega)]
    simp [inB] at h1 ⊢
    omega
  · rw [headB_at h3 h4]
    have : 0 ≤ placeE d.entries o := by
      rcases placeE_cases d.entries o with ⟨_, k2⟩ | ⟨i', e', k1, _⟩
      · exact absurd h6 (k2 i e h5)
      · omega
    simp [inB] at h1 ⊢
    omega
theorem store_head {s : StoreD} (hS : StoreP s) {o : Nat} {h : HeadD} (h1 : inB h.value (-1000000000) 1000000000 = true) (h2 : 0 ≤ h.version ∧ h.version ≤ 1000000) (h3 : h.desc = -1 ∨ ∃ (k : Nat) (d : DescS) (i : Nat) (e : EntS), h.desc = k ∧ s.descs[k]? = some d ∧ d.entries[i]? = some e ∧ e.object = o) : StoreP ⟨s.heads.set o h, s.descs⟩ := by
  obtain ⟨a, b, c, d, e⟩ := hS
  refine ⟨by simpa using a, by simpa using b, c, fun x hx => by simpa using d x hx, fun i x hx => ?_⟩
  by_cases ho : o = i
  · subst ho
    have hl : o < s.heads.length := by have := (List.getElem?_eq_some_iff.1 hx).1; simpa using this
    rw [List.getElem?_set_self hl] at hx
    cases hx
    exact headB_of h1 h2 h3
  · have hx : s.heads[i]? = some x := by rw [← hx]; exact (List.getElem?_set_ne ho).symm
    exact e i x hx
theorem desc_set {ds : List DescS} {k : Nat} {d : DescS} (hd : ds[k]? = some d) (st : Int) (i : Nat) : (ds.set k ⟨d.owner, st, d.entries⟩)[i]? = if i = k then some ⟨d.owner, st, d.entries⟩ else ds[i]? := by
  by_cases h : i = k
  · subst h; rw [if_pos rfl]; exact List.getElem?_set_self (List.getElem?_eq_some_iff.1 hd).1
  · rw [if_neg h]; exact List.getElem?_set_ne (Ne.symm h)
theorem store_desc {s : StoreD} (hS : StoreP s) {k : Nat} {d : DescS} (hd : s.descs[k]? = some d) {st : Int} (h0 : 0 ≤ st) (h2 : st ≤ 2) : StoreP ⟨s.heads, s.descs.set k ⟨d.owner, st, d.entries⟩⟩ := by
  have hS0 := hS
  obtain ⟨a, b, c, dd, e⟩ := hS
  refine ⟨a, b, by simpa using c, fun x hx => ?_, fun i x hx => ?_⟩
  · rcases List.mem_or_eq_of_mem_set hx with hx | rfl
    · exact dd x hx
    · obtain ⟨⟨q1, q2, q3, q4, q5, q6⟩, q7⟩ := dd d (List.mem_of_getElem? hd)
      exact ⟨⟨q1, q2, q3, by simp [inB]; omega, q5, q6⟩, q7⟩
  · obtain ⟨v1, v2, v3, v4, v5⟩ := head_desc hS0 hx
    refine headB_of v1 ⟨v2, v3⟩ ?_
    rcases Int.lt_or_le x.desc 0 with c | c
    · exact .inl (by omega)
    · obtain ⟨m, hm⟩ : ∃ m : Nat, x.desc = m := ⟨x.desc.toNat, by omega⟩
      obtain ⟨dm, hdm⟩ : ∃ dm, s.descs[m]? = some dm := ⟨_, List.getElem?_eq_getElem (by omega)⟩
      obtain ⟨i', e', p1, p2⟩ := head_in hS0 hx hm hdm
      by_cases hmk : m = k
      · subst hmk
        rw [hd] at hdm
        cases hdm
        exact .inr ⟨m, ⟨d.owner, st, d.entries⟩, i', e', hm, by rw [desc_set hd, if_pos rfl], p1, p2⟩
      · exact .inr ⟨m, dm, i', e', hm, by rw [desc_set hd, if_neg hmk]; exact hdm, p1, p2⟩

/-- What one step of a right frame does. -/
structure DStep (s : StoreD) (f : FrameD) (r : StoreD × FrameD × Int) : Prop where
  st : StoreP r.1
  fr : frmB r.1 r.2.1 = true
  hl : r.1.heads.length = s.heads.length
  dl : r.1.descs.length = s.descs.length
  desc : r.2.1.desc = f.desc
  ds : ∀ (k : Nat) (d : DescS), s.descs[k]? = some d → ∃ st : Int, r.1.descs[k]? = some ⟨d.owner, st, d.entries⟩ ∧ ((k : Int) ≠ f.desc → st = d.status) ∧ (d.status ≠ 0 → st = d.status)
  hd : ∀ (o : Nat) (h : HeadD), s.heads[o]? = some h → ∃ h' : HeadD, r.1.heads[o]? = some h' ∧ (h' = h ∨ (h.desc = -1 ∧ h' = ⟨h.value, h.version, f.desc⟩) ∨ (h.desc = f.desc ∧ f.phase = 4 ∧ h'.desc = -1 ∧ ((h'.value = h.value ∧ h'.version = h.version) ∨ ∃ (k : Nat) (d : DescS) (e : EntS), f.desc = k ∧ s.descs[k]? = some d ∧ d.status = 1 ∧ e ∈ d.entries ∧ e.object = o ∧ e.write = true ∧ h'.value = e.new ∧ h'.version = (h.version + 1).tmod 1000001)))
  met : r.2.2 = -1 ∨ (0 ≤ r.2.2 ∧ r.1 = s ∧ r.2.1 = ⟨f.desc, 0, 0⟩ ∧ f.phase = 1 ∧ r.2.2 < s.descs.length ∧ r.2.2 ≠ f.desc ∧ ∃ k d j e o h, AtP s f k d j e o h ∧ h.desc = r.2.2)

theorem frm_zero {s : StoreD} {k : Nat} {d : DescS} (hd : s.descs[k]? = some d) {p : Int} (hp : 0 ≤ p) (hp5 : p ≤ 5) (hn : 0 < d.entries.length) : frmB s ⟨(k : Nat), p, 0⟩ = true := by
  have := (List.getElem?_eq_some_iff.1 hd).1
  simp only [frmB, Bool.and_eq_true, Int.toNat_natCast, hd]
  refine ⟨⟨by simp [inB]; omega, by simp [inB]; omega⟩, ?_⟩
  split
  · simp [inB]; omega
  · simp
theorem frm_on {s : StoreD} {f : FrameD} {k j : Nat} {d : DescS} (hk : f.desc = k) (hd : s.descs[k]? = some d) (hj : f.place = j) (hjl : j < d.entries.length) (hp : f.phase = 1 ∨ f.phase = 4) {b : Int} (hb0 : 0 ≤ b) (hb : b ≤ 5) : frmB s (onwardM d.entries.length f b) = true := by
  have := (List.getElem?_eq_some_iff.1 hd).1
  unfold onwardM
  split
  · simp only [frmB, Bool.and_eq_true, hk, Int.toNat_natCast, hd, if_pos hp]
    refine ⟨⟨by simp [inB]; omega, by simp [inB]; omega⟩, by simp [inB]; omega⟩
  · rw [hk]; exact frm_zero hd hb0 hb (by omega)
theorem on_desc {n : Nat} {f : FrameD} {b : Int} : (onwardM n f b).desc = f.desc := by unfold onwardM; split <;> rfl
theorem ds_same {s : StoreD} {f : FrameD} : ∀ (k : Nat) (d : DescS), s.descs[k]? = some d → ∃ st : Int, s.descs[k]? = some ⟨d.owner, st, d.entries⟩ ∧ ((k : Int) ≠ f.desc → st = d.status) ∧ (d.status ≠ 0 → st = d.status) := fun k d hd => ⟨d.status, hd, fun _ => rfl, fun _ => rfl⟩

theorem dstep {s : StoreD} {f : FrameD} (hS : StoreP s) (hf : frmB s f = true) : DStep s f (driveF s f) := by
  obtain ⟨k, d, j, e, o, h, ha⟩ := at_ex hS hf
  rw [driveF_at ha]
  obtain ⟨a1, a2, a3, a4, a5, a6⟩ := ha
  have hkl := (List.getElem?_eq_some_iff.1 a2).1
  have hjl := (List.getElem?_eq_some_iff.1 a4).1
  have hfd := hS.2.2.2.1 d (List.mem_of_getElem? a2)
  have hst : 0 ≤ d.status ∧ d.status ≤ 2 := by have := hfd.1.2.2.2.1; simp [inB] at this; exact this
  have hen : e.ok = true := hfd.1.2.1 j e a4
  obtain ⟨v1, v2, v3, v4, v5⟩ := head_desc hS a6
  have hz : ∀ (s' : StoreD) (d' : DescS) (p : Int), s'.descs[k]? = some d' → 0 < d'.entries.length → 0 ≤ p → p ≤ 5 → frmB s' ⟨f.desc, p, 0⟩ = true := fun s' d' p h1 h2 h3 h4 => by rw [a1]; exact frm_zero h1 h3 h4 h2
  have hd0 : ∀ (o : Nat) (h : HeadD), s.heads[o]? = some h → ∃ h' : HeadD, s.heads[o]? = some h' ∧ (h' = h ∨ (h.desc = -1 ∧ h' = ⟨h.value, h.version, f.desc⟩) ∨ (h.desc = f.desc ∧ f.phase = 4 ∧ h'.desc = -1 ∧ ((h'.value = h.value ∧ h'.version = h.version) ∨ ∃ (k : Nat) (d : DescS) (e : EntS), f.desc = k ∧ s.descs[k]? = some d ∧ d.status = 1 ∧ e ∈ d.entries ∧ e.object = o ∧ e.write = true ∧ h'.value = e.new ∧ h'.version = (h.version + 1).tmod 1000001))) := fun o h hh => ⟨h, hh, .inl rfl⟩
  unfold driveM
  split
  · exact ⟨hS, hz s d _ a2 (by omega) (by split <;> omega) (by split <;> omega), rfl, rfl, rfl, ds_same, hd0, .inl rfl⟩
  rename_i p0
  split
  · rename_i p1
    split
    · exact ⟨hS, frm_on a1 a2 a3 hjl (.inl p1) (by omega) (by omega), rfl, rfl, on_desc, ds_same, hd0, .inl rfl⟩
    rename_i q1
    split
    · rename_i q2
      exact ⟨hS, hz s d _ a2 (by omega) (by omega) (by omega), rfl, rfl, rfl, ds_same, hd0, .inr ⟨q2, rfl, rfl, p1, v5, q1, k, d, j, e, o, h, ⟨a1, a2, a3, a4, a5, a6⟩, rfl⟩⟩
    rename_i q2
    split
    · exact ⟨hS, hz s d _ a2 (by omega) (by omega) (by omega), rfl, rfl, rfl, ds_same, hd0, .inl rfl⟩
    · refine ⟨store_head hS v1 ⟨v2, v3⟩ (.inr ⟨k, d, j, e, a1, a2, a4, a5⟩), frm_on a1 a2 a3 hjl (.inl p1) (by omega) (by omega), by simp, rfl, on_desc, ds_same, fun o' h' hh => ?_, .inl rfl⟩
      by_cases ho : o = o'
      · subst ho
        rw [a6] at hh
        cases hh
        exact ⟨_, List.getElem?_set_self (List.getElem?_eq_some_iff.1 a6).1, .inr (.inl ⟨by omega, rfl⟩)⟩
      · exact ⟨h', by rw [← hh]; exact List.getElem?_set_ne ho, .inl rfl⟩
  rename_i p1
  split
  · rename_i p2
    split
    · rename_i q1
      refine ⟨store_desc hS a2 (by split <;> omega) (by split <;> omega), hz _ ⟨d.owner, if f.phase = 2 then 1 else 2, d.entries⟩ _ (by simp only; rw [desc_set a2, if_pos rfl]) (by simp only; omega) (by omega) (by omega), rfl, by simp, rfl, fun k' d' hd' => ?_, hd0, .inl rfl⟩
      by_cases hk : k' = k
      · subst hk
        rw [a2] at hd'
        cases hd'
        exact ⟨_, by simp only; rw [desc_set a2, if_pos rfl], fun hc => absurd a1.symm hc, fun hc => absurd q1 hc⟩
      · exact ⟨d'.status, by simp only; rw [desc_set a2, if_neg hk]; exact hd', fun _ => rfl, fun _ => rfl⟩
    · exact ⟨hS, hz s d _ a2 (by omega) (by omega) (by omega), rfl, rfl, rfl, ds_same, hd0, .inl rfl⟩
  rename_i p2
  split
  · rename_i p4
    split
    · rename_i q1
      have hmod := Int.tmod_lt_of_pos (h.version + 1) (b := 1000001) (by omega)
      have hmod0 := Int.tmod_nonneg (a := h.version + 1) 1000001 (by omega)
      have hfree : inB (freeH d e h).value (-1000000000) 1000000000 = true ∧ (0 ≤ (freeH d e h).version ∧ (freeH d e h).version ≤ 1000000) ∧ (freeH d e h).desc = -1 := by
        unfold freeH
        split
        · refine ⟨?_, ⟨hmod0, by simp only; omega⟩, rfl⟩
          simp only [EntS.ok, Bool.and_eq_true] at hen
          exact hen.1.2
        · exact ⟨v1, ⟨v2, v3⟩, rfl⟩
      refine ⟨store_head hS hfree.1 hfree.2.1 (.inl hfree.2.2), frm_on a1 a2 a3 hjl (.inr p4) (by omega) (by omega), by simp, rfl, on_desc, ds_same, fun o' h' hh => ?_, .inl rfl⟩
      by_cases ho : o = o'
      · subst ho
        rw [a6] at hh
        cases hh
        refine ⟨_, List.getElem?_set_self (List.getElem?_eq_some_iff.1 a6).1, .inr (.inr ⟨q1, p4, hfree.2.2, ?_⟩)⟩
        unfold freeH
        split
        · rename_i q2
          exact .inr ⟨k, d, e, a1, a2, q2.1, List.mem_of_getElem? a4, a5, q2.2, rfl, rfl⟩
        · exact .inl ⟨rfl, rfl⟩
      · exact ⟨h', by rw [← hh]; exact List.getElem?_set_ne ho, .inl rfl⟩
    · exact ⟨hS, frm_on a1 a2 a3 hjl (.inr p4) (by omega) (by omega), rfl, rfl, on_desc, ds_same, hd0, .inl rfl⟩
  · exact ⟨hS, hf, rfl, rfl, rfl, ds_same, hd0, .inl rfl⟩
end Go.Proofs.Ytchkbgekmoileaa
