/- Stores that are drawn (plain). -/
import Derived.Test.YtchkbgekmoileaaMHb
import Derived.Test.YtchkbgekmoileaaDK
import Derived.Test.YtchkbgekmoileaaDN
import Derived.Test.YtchkbgekmoileaaNC
import Derived.Test.YtchkbgekmoileaaSM
import Derived.Test.YtchkbgekmoileaaLC
import Derived.Test.YtchkbgekmoileaaCA
namespace Go.Proofs.Ytchkbgekmoileaa
open Go Go.RowKit
set_option linter.unusedVariables false
set_option linter.unusedSimpArgs false
set_option maxRecDepth 100000
set_option maxHeartbeats 4000000
attribute [local irreducible] VWP vops vdraw contV contD CallK Guard GuardV NextL Puts Runs RetOK RetQ RetO RetQO thenQ blockQ

/-- What draws a number below another one. -/
abbrev Below := Cur → Int → Int × Cur
def BelowOk (b : Below) : Prop := ∀ c n, 0 < n → 0 ≤ (b c n).1 ∧ (b c n).1 < n

def valsF (b : Below) : Nat → Cur → List Int → List Int × Cur
  | 0, c, vs => (vs, c)
  | k + 1, c, vs => valsF b k (b c 9).2 (vs ++ [(b c 9).1 - 4])
def headAt (s : StoreD) (o : Int) : HeadD := (s.heads[o.toNat]?).getD ⟨0, 0, 0⟩
/-- One object drawn into a list. -/
noncomputable def entF (b : Below) (s : StoreD) (c : Cur) (es : List EntS) : List EntS × Cur :=
  let r1 := b c s.heads.length
  let r2 := b r1.2 8
  let r3 := b r2.2 2
  let es1 := (addReadL es ⟨r1.1, (headAt s r1.1).version + (if r2.1 = 0 then 1 else 0), (headAt s r1.1).value, (headAt s r1.1).value, false⟩).1
  if r3.1 = 0 then ((setNewL es1 r1.1 ((b r3.2 9).1 - 4)).1, (b r3.2 9).2) else (es1, r3.2)
noncomputable def entsF (b : Below) (s : StoreD) : Nat → Cur → List EntS → List EntS × Cur
  | 0, c, es => (es, c)
  | k + 1, c, es => entsF b s k (entF b s c es).2 (entF b s c es).1
def drvF : Nat → StoreD → FrameD → StoreD × FrameD
  | 0, s, f => (s, f)
  | k + 1, s, f => drvF k (driveF s f).1 (driveF s f).2.1
/-- One descriptor drawn, announced and driven for a while. -/
noncomputable def roundF (b : Below) (s : StoreD) (c : Cur) : StoreD × Cur :=
  let r1 := b c 3
  let es := entsF b s (1 + r1.1.toNat) r1.2 []
  let r2 := b es.2 3
  let a := announceL s (makeL r2.1 es.1).1
  let r3 := b r2.2 12
  (if a.2.2 = true then (drvF r3.1.toNat a.1 ⟨a.2.1, 0, 0⟩).1 else a.1, r3.2)
noncomputable def roundsF (b : Below) : Nat → StoreD → Cur → StoreD × Cur
  | 0, s, c => (s, c)
  | k + 1, s, c => roundsF b k (roundF b s c).1 (roundF b s c).2
/-- A store behind some descriptors that were driven for a while. -/
noncomputable def storeF (b : Below) (c : Cur) : StoreD × Cur :=
  let r1 := b c 4
  let vs := valsF b (2 + r1.1.toNat) r1.2 []
  let r2 := b vs.2 5
  roundsF b r2.1.toNat (newStoreL vs.1).1 r2.2

/-- What a drawn store is. -/
structure DrawnP (nv D : Nat) (s : StoreD) : Prop where
  st : StoreP s
  pre : PreP s
  hl : s.heads.length = nv
  dl : s.descs.length ≤ D
theorem drvF_ok : ∀ (k : Nat) {nv D : Nat} {s : StoreD} {f : FrameD}, DrawnP nv D s → frmB s f = true → FrP s f → DrawnP nv D (drvF k s f).1
  | 0, nv, D, s, f, h, _, _ => h
  | k + 1, nv, D, s, f, h, hf, hF => by
    have hd := dstep h.st hf
    obtain ⟨p1, p2⟩ := dstep_pre h.st hf h.pre hF
    exact drvF_ok k ⟨hd.st, p1, by rw [hd.hl]; exact h.hl, by rw [hd.dl]; exact h.dl⟩ hd.fr p2
theorem store_new {s : StoreD} {d : DescS} (hS : StoreP s) (hd : FitsP s.heads.length d) (hD : s.descs.length < 60) : StoreP ⟨s.heads, s.descs ++ [d]⟩ := by
  obtain ⟨a, b, c, dd, e⟩ := id hS
  refine ⟨a, b, by simp; omega, fun x hx => ?_, fun o x hx => ?_⟩
  · simp only [List.mem_append, List.mem_cons, List.not_mem_nil, or_false] at hx
    rcases hx with hx | rfl
    · exact dd x hx
    · exact hd
  · obtain ⟨v1, v2, v3, v4, v5⟩ := head_desc hS hx
    refine headB_of v1 ⟨v2, v3⟩ ?_
    rcases Int.lt_or_le x.desc 0 with q | q
    · exact .inl (by omega)
    · obtain ⟨m, hm⟩ : ∃ m : Nat, x.desc = m := ⟨x.desc.toNat, by omega⟩
      obtain ⟨dm, hdm⟩ : ∃ dm, s.descs[m]? = some dm := ⟨_, List.getElem?_eq_getElem (by omega)⟩
      obtain ⟨i, e', p1, p2⟩ := head_in hS hx hm hdm
      exact .inr ⟨m, dm, i, e', hm, by simp only; rw [List.getElem?_append_left (by omega)]; exact hdm, p1, p2⟩
theorem pre_new {s : StoreD} {d : DescS} (hS : StoreP s) (hP : PreP s) : PreP ⟨s.heads, s.descs ++ [d]⟩ := by
  intro k d' hd' hs i j ei ej hi hj hlt hl
  simp only at hd'
  rcases Nat.lt_or_ge k s.descs.length with c | c
  · rw [List.getElem?_append_left c] at hd'
    exact hP k d' hd' hs i j ei ej hi hj hlt hl
  · obtain ⟨x, hx, hxd⟩ := hl
    have := head_desc hS hx
    omega
theorem ann_ok {s : StoreD} {d : DescS} (h : (announceL s d).2.2 = true) : announceL s d = ((⟨s.heads, s.descs ++ [d]⟩ : StoreD), (s.descs.length : Int), true) ∧ FitsP s.heads.length d ∧ d.status = 0 ∧ s.descs.length ≠ 60 := by
  cases ha : annB s d with
  | false => rw [ann_no ha] at h; cases h
  | true =>
    refine ⟨by simp [announceL, ha], ?_⟩
    unfold annB at ha
    simp only [Bool.and_eq_true, bP_iff, beq_iff_eq, Bool.not_eq_true', beq_eq_false_iff_ne] at ha
    exact ⟨ha.1.1.2, ha.1.2, ha.2⟩
theorem ann_no2 {s : StoreD} {d : DescS} (h : ¬ (announceL s d).2.2 = true) : announceL s d = (s, -1, false) := by
  cases ha : annB s d with
  | false => exact ann_no ha
  | true => exact absurd (by simp [announceL, ha]) h
theorem roundF_ok {b : Below} {nv D : Nat} {s : StoreD} {c : Cur} (h : DrawnP nv D s) (hD : D < 60) : DrawnP nv (D + 1) (roundF b s c).1 := by
  unfold roundF
  simp only
  split
  · rename_i ha
    obtain ⟨h1, h2, h3, h4⟩ := ann_ok ha
    rw [h1]
    simp only
    have hdl := h.dl
    have hS' := store_new h.st h2 (by omega)
    have hat : ∀ d : DescS, (s.descs ++ [d])[s.descs.length]? = some d := fun d => by simp
    refine drvF_ok _ ⟨hS', pre_new h.st h.pre, h.hl, by simp; omega⟩ (frm_zero (s := ⟨s.heads, s.descs ++ [_]⟩) (hat _) (by omega) (by omega) h2.1.2.2.2.2.1) (frP_zero (f := ⟨(s.descs.length : Nat), 0, 0⟩) (by omega) (by omega) (by omega) (by omega))
  · rename_i ha
    rw [ann_no2 ha]
    exact ⟨h.st, h.pre, h.hl, Nat.le_succ_of_le h.dl⟩
theorem roundsF_ok {b : Below} : ∀ (k : Nat) {nv D : Nat} {s : StoreD} {c : Cur}, DrawnP nv D s → D + k < 60 → DrawnP nv (D + k) (roundsF b k s c).1
  | 0, nv, D, s, c, h, _ => h
  | k + 1, nv, D, s, c, h, hD => by
    have := roundsF_ok (b := b) k (c := (roundF b s c).2) (roundF_ok (b := b) (c := c) h (by omega)) (by omega)
    rw [show D + (k + 1) = D + 1 + k by omega]
    exact this
theorem valsF_ok {b : Below} (hb : BelowOk b) : ∀ (k : Nat) (c : Cur) (vs : List Int), (∀ x ∈ vs, -4 ≤ x ∧ x ≤ 4) → (valsF b k c vs).1.length = vs.length + k ∧ ∀ x ∈ (valsF b k c vs).1, -4 ≤ x ∧ x ≤ 4
  | 0, c, vs, h => ⟨rfl, h⟩
  | k + 1, c, vs, h => by
    obtain ⟨h1, h2⟩ := valsF_ok hb k (b c 9).2 (vs ++ [(b c 9).1 - 4]) fun x hx => by
      simp only [List.mem_append, List.mem_cons, List.not_mem_nil, or_false] at hx
      rcases hx with hx | rfl
      · exact h x hx
      · have := hb c 9 (by omega); omega
    exact ⟨by rw [valsF, h1]; simp; omega, h2⟩
theorem newStore_drawn {vs : List Int} (h1 : 1 ≤ vs.length) (h2 : vs.length ≤ 8) (h : ∀ x ∈ vs, -4 ≤ x ∧ x ≤ 4) : newStoreL vs = (⟨vs.map headOf, []⟩, true) ∧ DrawnP vs.length 0 ⟨vs.map headOf, []⟩ := by
  refine ⟨?_, ⟨⟨by simp; omega, by simp; omega, by simp, fun d hd => by simp at hd, fun o x hx => ?_⟩, fun k d hd => by simp at hd, by simp, by simp⟩⟩
  · unfold newStoreL
    rw [if_pos]
    refine ⟨by simp [inB]; omega, ?_⟩
    unfold allB
    rw [List.all_eq_true]
    intro x hx
    have := h x hx
    simp [inB]
    omega
  · simp only [List.getElem?_map, Option.map_eq_some_iff] at hx
    obtain ⟨v, hv, rfl⟩ := hx
    have := h v (List.mem_of_getElem? hv)
    exact headB_of (by have e : (headOf v).value = v := rfl
                       rw [e]; simp [inB]; omega) (by simp [headOf]) (.inl rfl)
theorem storeF_ok {b : Below} (hb : BelowOk b) (c : Cur) : ∃ nv, 2 ≤ nv ∧ nv ≤ 5 ∧ DrawnP nv 4 (storeF b c).1 := by
  unfold storeF
  simp only
  have h1 := hb c 4 (by omega)
  obtain ⟨v1, v2⟩ := valsF_ok hb (2 + (b c 4).1.toNat) (b c 4).2 [] (by simp)
  simp only [List.length_nil] at v1
  obtain ⟨n1, n2⟩ := newStore_drawn (vs := (valsF b (2 + (b c 4).1.toNat) (b c 4).2 []).1) (by omega) (by omega) v2
  have h2 := hb (valsF b (2 + (b c 4).1.toNat) (b c 4).2 []).2 5 (by omega)
  have h3 := roundsF_ok (b := b) (b (valsF b (2 + (b c 4).1.toNat) (b c 4).2 []).2 5).1.toNat (c := (b (valsF b (2 + (b c 4).1.toNat) (b c 4).2 []).2 5).2) n2 (by omega)
  rw [n1]
  refine ⟨_, ?_, ?_, h3.st, h3.pre, h3.hl, ?_⟩
  · omega
  · omega
  · have := h3.dl; simp only at this ⊢; omega

end Go.Proofs.Ytchkbgekmoileaa
