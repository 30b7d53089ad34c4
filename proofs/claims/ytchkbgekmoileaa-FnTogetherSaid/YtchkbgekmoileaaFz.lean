/- Several texts in one: SB MHc MTa HC HD HE HJ MTb MTc MHd KE HF MHe HI. -/
import Derived.Test.YtchkbgekmoileaaDB
import Derived.Test.YtchkbgekmoileaaEf
import Derived.Test.YtchkbgekmoileaaMHb
import Derived.Test.YtchkbgekmoileaaHB
import Derived.Test.YtchkbgekmoileaaLJ
import Derived.Test.YtchkbgekmoileaaOF
import Derived.Test.YtchkbgekmoileaaKA
import Derived.Test.YtchkbgekmoileaaLB
import Derived.Test.YtchkbgekmoileaaDK
import Derived.Test.YtchkbgekmoileaaDN
import Derived.Test.YtchkbgekmoileaaSM
import Derived.Test.YtchkbgekmoileaaSI
import Derived.Test.YtchkbgekmoileaaYB
import Derived.Test.YtchkbgekmoileaaNA
/- Rows of bools, and what the laws' functions of its slices give. -/
namespace Go.Proofs.Ytchkbgekmoileaa
open Go Go.RowKit
set_option linter.unusedVariables false
set_option linter.unusedSimpArgs false
set_option maxRecDepth 100000
set_option maxHeartbeats 4000000
attribute [local irreducible] VWP vops vdraw contV contD CallK Guard GuardV NextL Puts Runs RetOK RetQ RetO RetQO thenQ blockQ
attribute [local irreducible] NextN

def encB (b : Bool) : List PT := [.bool b]
def rowsB (es : List Bool) : List (List PT) := es.map encB
theorem rowsB_len (es : List Bool) : (rowsB es).length = es.length := by simp [rowsB]
theorem rowsB_pur (es : List Bool) : PurRows (rowsB es) := by
  intro r hr c hc
  obtain ⟨e, _, rfl⟩ := List.mem_map.1 hr
  simp only [encB, List.mem_cons, List.not_mem_nil, or_false] at hc
  rcases hc with rfl <;> constructor
theorem rowsB_take (es : List Bool) : (rowsB es).take es.length = rowsB es := by rw [List.take_of_length_le (by rw [rowsB_len]; exact Nat.le_refl _)]
theorem rowsB_at {es : List Bool} {i : Nat} {e : Bool} (h : es[i]? = some e) : (rowsB es)[i]? = some [.bool e] := by simp [rowsB, h, encB]
def marksB (k : Int) (n : Nat) : List Bool := (List.range n).map fun j => (k + (j : Nat)).tmod 3 == 0
theorem marksB_len (k : Int) (n : Nat) : (marksB k n).length = n := by simp [marksB]
theorem marksB_at {k : Int} {n i : Nat} (h : i < n) : (marksB k n)[i]? = some ((k + (i : Nat)).tmod 3 == 0) := by simp [marksB, h]
end Go.Proofs.Ytchkbgekmoileaa

/- How many steps a stack has before it (plain). -/
namespace Go.Proofs.Ytchkbgekmoileaa
open Go Go.RowKit
set_option linter.unusedVariables false
set_option linter.unusedSimpArgs false
set_option maxRecDepth 100000
set_option maxHeartbeats 4000000
attribute [local irreducible] VWP vops vdraw contV contD CallK Guard GuardV NextL Puts Runs RetOK RetQ RetO RetQO thenQ blockQ

theorem dstep_lies {s : StoreD} {f : FrameD} {r : StoreD × FrameD × Int} (h : DStep s f r) {k o : Nat} (hk : (k : Int) ≠ f.desc) : LiesOn r.1 k o ↔ LiesOn s k o := by
  cases ho : s.heads[o]? with
  | none =>
    have h2 : r.1.heads[o]? = none := by
      rw [List.getElem?_eq_none_iff] at ho ⊢
      rw [h.hl]; exact ho
    simp [LiesOn, ho, h2]
  | some x =>
    obtain ⟨x', h1, h2⟩ := h.hd o x ho
    rw [liesAt h1, liesAt ho]
    rcases h2 with rfl | ⟨h2, rfl⟩ | ⟨h2, _, h3, _⟩
    · rfl
    · simp only; omega
    · omega
/-- While a descriptor is not decided, it lets nothing go. -/
theorem dstep_keep {s : StoreD} {f : FrameD} {r : StoreD × FrameD × Int} (h : DStep s f r) (hF : FrP s f) {k o : Nat} {d : DescS} (hk : f.desc = k) (hd : s.descs[k]? = some d) (hs : d.status = 0) (hl : LiesOn s k o) : LiesOn r.1 k o := by
  obtain ⟨x, h1, h2⟩ := hl
  obtain ⟨x', h3, h4⟩ := h.hd o x h1
  rw [liesAt h3]
  rcases h4 with rfl | ⟨h4, rfl⟩ | ⟨h4, h5, _⟩
  · exact h2
  · omega
  · exact absurd hs (hF.p4 k d hk hd h5).1

/-- How many steps a frame has before it, at most, if it meets no other. -/
def cost (s : StoreD) (f : FrameD) : Nat := match s.descs[f.desc.toNat]? with
  | none => 0
  | some d => if f.phase = 0 then 2 * d.entries.length + 2 else if f.phase = 1 then 2 * d.entries.length + 1 - f.place.toNat else if f.phase = 4 then d.entries.length - f.place.toNat else d.entries.length + 1
theorem cost_at {s : StoreD} {f : FrameD} {k : Nat} {d : DescS} (hk : f.desc = k) (hd : s.descs[k]? = some d) : cost s f = if f.phase = 0 then 2 * d.entries.length + 2 else if f.phase = 1 then 2 * d.entries.length + 1 - f.place.toNat else if f.phase = 4 then d.entries.length - f.place.toNat else d.entries.length + 1 := by
  unfold cost
  rw [hk, Int.toNat_natCast, hd]
theorem dstep_cost {s : StoreD} {f : FrameD} (hS : StoreP s) (hf : frmB s f = true) (h5 : f.phase ≠ 5) : 1 ≤ cost s f ∧ ((driveF s f).2.2 = -1 → (driveF s f).2.1.phase ≠ 5 → cost (driveF s f).1 (driveF s f).2.1 < cost s f) ∧ (0 ≤ (driveF s f).2.2 → 2 ≤ cost s f) := by
  have hd := dstep hS hf
  obtain ⟨k, d, j, e, o, h, ha⟩ := at_ex hS hf
  obtain ⟨st, q1, _⟩ := hd.ds k d ha.dk
  have hc := cost_at ha.fk ha.dk
  have hc' := cost_at (f := (driveF s f).2.1) (by rw [hd.desc]; exact ha.fk) q1
  have hjl := (List.getElem?_eq_some_iff.1 ha.ej).1
  have a3 := ha.fj
  have hph : 0 ≤ f.phase ∧ f.phase ≤ 5 := by
    unfold frmB at hf
    simp only [Bool.and_eq_true] at hf
    have := hf.1.2
    simp [inB] at this
    omega
  rw [hc, hc']
  clear hc hc' q1 hd
  rw [driveF_at ha]
  have hp : f.phase = 0 ∨ f.phase = 1 ∨ f.phase = 2 ∨ f.phase = 3 ∨ f.phase = 4 := by omega
  rcases hp with p | p | p | p | p
  · have hr : driveM s f k d e o h = (s, ⟨f.desc, if d.status = 0 then 1 else 4, 0⟩, -1) := by simp [driveM, p]
    rw [hr, p]
    by_cases c : d.status = 0
    · simp only [if_pos c]; simp
    · simp only [if_neg c]; simp; omega
  · have hr : driveM s f k d e o h = (if h.desc = f.desc then (s, onwardM d.entries.length f 2, -1)
    else if 0 ≤ h.desc then (s, ⟨f.desc, 0, 0⟩, h.desc)
    else if h.version ≠ e.version then (s, ⟨f.desc, 3, 0⟩, -1)
    else (⟨s.heads.set o ⟨h.value, h.version, f.desc⟩, s.descs⟩, onwardM d.entries.length f 2, -1)) := by simp [driveM, p]
    rw [hr]
    have hon : (onwardM d.entries.length f 2 = ⟨f.desc, 1, f.place + 1⟩ ∧ f.place + 1 < d.entries.length) ∨ onwardM d.entries.length f 2 = ⟨f.desc, 2, 0⟩ := by
      unfold onwardM
      split
      · rename_i c; rw [p]; exact .inl ⟨rfl, c⟩
      · exact .inr rfl
    rw [p]
    clear hr
    by_cases c1 : h.desc = f.desc
    · rw [if_pos c1]
      rcases hon with ⟨hon, c⟩ | hon <;> rw [hon] <;> simp <;> omega
    rw [if_neg c1]
    by_cases c2 : 0 ≤ h.desc
    · rw [if_pos c2]; simp; omega
    rw [if_neg c2]
    by_cases c3 : h.version ≠ e.version
    · rw [if_pos c3]; simp; omega
    · rw [if_neg c3]
      rcases hon with ⟨hon, c⟩ | hon <;> rw [hon] <;> simp <;> omega
  · have hr : ∃ x, driveM s f k d e o h = (x, ⟨f.desc, 4, 0⟩, -1) := ⟨_, by simp [driveM, p]; rfl⟩
    obtain ⟨x, hr⟩ := hr
    rw [hr, p]
    simp
  · have hr : ∃ x, driveM s f k d e o h = (x, ⟨f.desc, 4, 0⟩, -1) := ⟨_, by simp [driveM, p]; rfl⟩
    obtain ⟨x, hr⟩ := hr
    rw [hr, p]
    simp
  · have hr : ∃ x, driveM s f k d e o h = (x, onwardM d.entries.length f 5, -1) := ⟨_, by simp [driveM, p]; rfl⟩
    obtain ⟨x, hr⟩ := hr
    have hon : (onwardM d.entries.length f 5 = ⟨f.desc, 4, f.place + 1⟩ ∧ f.place + 1 < d.entries.length) ∨ onwardM d.entries.length f 5 = ⟨f.desc, 5, 0⟩ := by
      unfold onwardM
      split
      · rename_i c; rw [p]; exact .inl ⟨rfl, c⟩
      · exact .inr rfl
    rw [hr, p]
    rcases hon with ⟨hon, c⟩ | hon <;> rw [hon] <;> simp <;> omega

theorem filter_lt {p q : Nat → Bool} : ∀ {l : List Nat} {x : Nat}, (∀ y ∈ l, p y = true → q y = true) → x ∈ l → q x = true → p x = false → (l.filter p).length < (l.filter q).length
  | [], x, _, hx, _, _ => by simp at hx
  | y :: l, x, h, hx, hq, hp => by
    have hle : ∀ (l : List Nat), (∀ y ∈ l, p y = true → q y = true) → (l.filter p).length ≤ (l.filter q).length := by
      intro l
      induction l with
      | nil => intro _; simp
      | cons y l ih =>
        intro h
        have := ih fun z hz => h z (List.mem_cons_of_mem _ hz)
        have hy := h y (List.mem_cons_self ..)
        simp only [List.filter_cons]
        cases c : p y with
        | true => rw [hy c]; simp; exact this
        | false => cases c2 : q y <;> simp <;> omega
    have hl := hle l fun z hz => h z (List.mem_cons_of_mem _ hz)
    simp only [List.filter_cons]
    rcases List.mem_cons.1 hx with rfl | hx
    · rw [hq, hp]; simp; omega
    · have ih := filter_lt (fun z hz => h z (List.mem_cons_of_mem _ hz)) hx hq hp
      have hy := h y (List.mem_cons_self ..)
      cases c : p y with
      | true => rw [hy c]; simp; exact ih
      | false => cases c2 : q y <;> simp <;> omega

/-- A descriptor lies over something. -/
def LiveP (s : StoreD) (k : Nat) : Prop := ∃ o, LiesOn s k o
noncomputable def liveN (s : StoreD) (fs : List FrameD) : Nat := ((List.range s.descs.length).filter fun k => bP (LiveP s k ∧ (k : Int) ∉ fs.map (·.desc))).length
noncomputable def potF (s : StoreD) (fs : List FrameD) : Nat := match fs.getLast? with
  | none => 0
  | some f => 30 * liveN s fs + 15 * (fs.length - 1) + cost s f

/-- A frame waits for the next one's descriptor. -/
def Wants (s : StoreD) (f g : FrameD) : Prop := f.phase = 0 ∧ f.place = 0 ∧ ∃ (k : Nat) (d : DescS) (i : Nat) (e : EntS), f.desc = k ∧ s.descs[k]? = some d ∧ d.status = 0 ∧ d.entries[i]? = some e ∧
  ∀ (k' : Nat) (d' : DescS), g.desc = k' → s.descs[k']? = some d' → d'.status = 0 → LiesOn s k' e.object.toNat
def Chain (s : StoreD) : List FrameD → Prop
  | f :: g :: l => Wants s f g ∧ Chain s (g :: l)
  | _ => True
structure HInv (s : StoreD) (fs : List FrameD) : Prop where
  st : StoreP s
  pre : PreP s
  chain : Chain s fs
  nod : (fs.map (·.desc)).Nodup
  frm : ∀ f ∈ fs, frmB s f = true
  top : ∀ f, fs.getLast? = some f → FrP s f ∧ f.phase ≠ 5

theorem chain_app {s : StoreD} : ∀ {l : List FrameD} {f g : FrameD}, Chain s (l ++ [f, g]) ↔ Chain s (l ++ [f]) ∧ Wants s f g
  | [], f, g => by simp [Chain]
  | [a], f, g => by simp [Chain]
  | a :: b :: l, f, g => by
    have := chain_app (s := s) (l := b :: l) (f := f) (g := g)
    simp only [List.cons_append] at this ⊢
    simp only [Chain]
    rw [this]
    exact and_assoc.symm
theorem chain_init {s : StoreD} : ∀ {l : List FrameD} {f : FrameD}, Chain s (l ++ [f]) → Chain s l
  | [], f, _ => trivial
  | [a], f, _ => trivial
  | a :: b :: l, f, h => by
    simp only [List.cons_append, Chain] at h ⊢
    exact ⟨h.1, chain_init (l := b :: l) h.2⟩
theorem chain_mono {s s' : StoreD} : ∀ {l : List FrameD}, (∀ a b, a ∈ l → b ∈ l → Wants s a b → Wants s' a b) → Chain s l → Chain s' l
  | [], _, _ => trivial
  | [a], _, _ => trivial
  | a :: b :: l, h, hc => ⟨h a b (by simp) (by simp) hc.1, chain_mono (fun x y hx hy => h x y (List.mem_cons_of_mem _ hx) (List.mem_cons_of_mem _ hy)) hc.2⟩
end Go.Proofs.Ytchkbgekmoileaa

/- Two who help one descriptor: what stays (plain). -/
namespace Go.Proofs.Ytchkbgekmoileaa
open Go Go.RowKit
set_option linter.unusedVariables false
set_option linter.unusedSimpArgs false
set_option maxRecDepth 100000
set_option maxHeartbeats 4000000
attribute [local irreducible] VWP vops vdraw contV contD CallK Guard GuardV NextL Puts Runs RetOK RetQ RetO RetQO thenQ blockQ

/-- Every object has the version that was read. -/
def GoodE (es : List EntS) (H0 : List HeadD) : Prop := ∀ e ∈ es, ∀ h, H0[e.object.toNat]? = some h → h.version = e.version
/-- What a head may be while a descriptor of status st is driven. -/
def HeadT (n : Nat) (es : List EntS) (st : Int) (o : Nat) (h0 h : HeadD) : Prop :=
  (h.value = h0.value ∧ h.version = h0.version ∧ (h.desc = -1 ∨ (h.desc = n ∧ ∃ e ∈ es, e.object = o ∧ e.version = h0.version)) ∧ (st = 1 → ∀ e ∈ es, e.object = o → e.write = true → h.desc = n)) ∨
  (st = 1 ∧ h.desc = -1 ∧ ∃ e ∈ es, e.object = o ∧ e.write = true ∧ h.value = e.new ∧ h.version = (h0.version + 1).tmod 1000001)
/-- A stack of one frame, or none. -/
def StkT (n : Nat) (es : List EntS) (H0 : List HeadD) (s : StoreD) (st : Int) (x : List FrameD) : Prop := x = [] ∨ ∃ f, x = [f] ∧ frmB s f = true ∧ f.desc = n ∧ f.phase ≠ 5 ∧
  (f.phase = 1 → st = 0 → ∀ (i : Nat) (e : EntS), es[i]? = some e → (i : Int) < f.place → LiesOn s n e.object.toNat) ∧
  (f.phase = 2 → st = 0 → ∀ (i : Nat) (e : EntS), es[i]? = some e → LiesOn s n e.object.toNat) ∧
  (f.phase = 3 → st = 0 → ¬ GoodE es H0) ∧ (f.phase = 4 → st ≠ 0)
def CovT (x : List FrameD) (i : Nat) : Prop := ∃ f, x = [f] ∧ (f.phase = 4 → f.place ≤ i)
structure TInv (n : Nat) (o0 : Int) (es : List EntS) (H0 : List HeadD) (s : StoreD) (st : Int) (x y : List FrameD) : Prop where
  sp : StoreP s
  dn : s.descs[n]? = some ⟨o0, st, es⟩
  s1 : st = 1 → GoodE es H0
  s2 : st = 2 → ¬ GoodE es H0
  hl : s.heads.length = H0.length
  h0 : ∀ (o : Nat) (h : HeadD), H0[o]? = some h → 0 ≤ h.version ∧ h.version ≤ 1000000
  hd : ∀ (o : Nat) (h h0 : HeadD), s.heads[o]? = some h → H0[o]? = some h0 → HeadT n es st o h0 h
  fx : StkT n es H0 s st x
  fy : StkT n es H0 s st y
  dec : x = [] → y = [] → st ≠ 0
  cov : ∀ (i : Nat) (e : EntS), es[i]? = some e → LiesOn s n e.object.toNat → CovT x i ∨ CovT y i
theorem TInv.symm {n : Nat} {o0 : Int} {es : List EntS} {H0 : List HeadD} {s : StoreD} {st : Int} {x y : List FrameD} (h : TInv n o0 es H0 s st x y) : TInv n o0 es H0 s st y x :=
  ⟨h.sp, h.dn, h.s1, h.s2, h.hl, h.h0, h.hd, h.fy, h.fx, fun a b => h.dec b a, fun i e hi hl => (h.cov i e hi hl).symm⟩

theorem stk_mono {n : Nat} {es : List EntS} {H0 : List HeadD} {s s' : StoreD} {st st' : Int} {x : List FrameD} (h : StkT n es H0 s st x) (hf : ∀ f : FrameD, f.desc = (n : Int) → frmB s f = true → frmB s' f = true) (h0 : st' = 0 → st = 0) (hl : st' = 0 → ∀ o : Nat, LiesOn s n o → LiesOn s' n o) : StkT n es H0 s' st' x := by
  rcases h with h | ⟨f, h1, h2, h3, h4, h5, h6, h7, h8⟩
  · exact .inl h
  · exact .inr ⟨f, h1, hf f h3 h2, h3, h4, fun p c i e hi hlt => hl c _ (h5 p (h0 c) i e hi hlt), fun p c i e hi => hl c _ (h6 p (h0 c) i e hi), fun p c => h7 p (h0 c), fun p c => h8 p (h0 c)⟩
theorem tmod_ne {v : Int} (h0 : 0 ≤ v) (h1 : v ≤ 1000000) : (v + 1).tmod 1000001 ≠ v := by
  intro h
  rcases Int.lt_or_le v 1000000 with c | c
  · rw [Int.tmod_eq_of_lt (by omega) (by omega)] at h; omega
  · have : v = 1000000 := by omega
    subst this
    simp at h

theorem tstep {n : Nat} {o0 : Int} {es : List EntS} {H0 : List HeadD} {s : StoreD} {st : Int} {x y : List FrameD} (hI : TInv n o0 es H0 s st x y) : ∃ st', TInv n o0 es H0 (helpF s x).1 st' (helpF s x).2 y ∧ (helpF s x).1.descs.length = s.descs.length ∧
    (∀ f, x = [f] → (helpF s x).2 = [] ∨ ∃ f', (helpF s x).2 = [f'] ∧ cost (helpF s x).1 f' < cost s f) := by
  rcases hI.fx with rfl | ⟨f, rfl, hf, hfn, h5, hp1, hp2, hp3, hp4⟩
  · exact ⟨st, hI, rfl, fun f hf => by simp at hf⟩
  have hS := hI.sp
  have hds := dstep hS hf
  obtain ⟨_, c2, _⟩ := dstep_cost hS hf h5
  obtain ⟨k, d, j, e, o, h, ha⟩ := at_ex hS hf
  obtain ⟨a1, a2, a3, a4, a5, a6⟩ := id ha
  have hkn : k = n := by omega
  subst hkn
  have hdn := hI.dn
  rw [a2] at hdn
  cases hdn
  have hfd := hS.2.2.2.1 _ (List.mem_of_getElem? a2)
  simp only at a4
  have hjl := (List.getElem?_eq_some_iff.1 a4).1
  have hst3 : 0 ≤ st ∧ st ≤ 2 := by have := hfd.1.2.2.2.1; simp [inB] at this; exact this
  obtain ⟨h0, hh0⟩ : ∃ h0, H0[o]? = some h0 := ⟨_, List.getElem?_eq_getElem (by rw [← hI.hl]; exact (List.getElem?_eq_some_iff.1 a6).1)⟩
  have hT := hI.hd o h h0 a6 hh0
  obtain ⟨hv0, hv1⟩ := hI.h0 o h0 hh0
  have heo : e.object.toNat = o := by omega
  have hdc : h.desc = -1 ∨ h.desc = k := by
    rcases hT with ⟨_, _, c | ⟨c, _⟩, _⟩ | ⟨_, c, _⟩
    · exact .inl c
    · exact .inr c
    · exact .inl c
  have same : ∀ e', e' ∈ es → e'.object = o → e' = e := fun e' he' ho => by
    obtain ⟨i, hi⟩ := List.getElem?_of_mem he'
    have := obj_inj hfd.1 (i := i) (j := j) hi a4 (by omega)
    subst this
    rw [a4] at hi
    exact (Option.some.inj hi).symm
  have objn : ∀ (i : Nat) (e' : EntS), es[i]? = some e' → (e'.object.toNat = o ↔ i = j) := fun i e' he => by
    obtain ⟨o', h1, h2⟩ := fits_obj hfd (i := i) he
    constructor
    · intro c
      exact obj_inj hfd.1 (i := i) (j := j) he a4 (by omega)
    · rintro rfl
      rw [a4] at he
      cases he
      exact heo
  have hmet : (driveF s f).2.2 = -1 := by
    rcases hds.met with c | ⟨c1, _, _, c4, _, c6, k2, d2, j2, e2, o2, h2, b, bd⟩
    · exact c
    · have : e2 = e ∧ o2 = o := by
        have e1 := b.fk; have e3 := b.fj
        have : k2 = k := by omega
        subst this
        have : j2 = j := by omega
        subst this
        have := b.dk; rw [a2] at this; cases this
        have := b.ej; rw [a4] at this; cases this
        exact ⟨rfl, by have := b.eo; omega⟩
      obtain ⟨rfl, rfl⟩ := this
      have := b.ho
      rw [a6] at this
      cases this
      omega
  have hres : helpF s [f] = ((driveF s f).1, if (driveF s f).2.1.phase = 5 then [] else [(driveF s f).2.1]) := by
    have := helpF_snoc s [] f
    simp only [List.nil_append] at this
    rw [this, if_neg (by omega)]
  have hdl : (helpF s [f]).1.descs.length = s.descs.length := by rw [hres]; exact hds.dl
  have hcost : ∀ g, [f] = [g] → (helpF s [f]).2 = [] ∨ ∃ f', (helpF s [f]).2 = [f'] ∧ cost (helpF s [f]).1 f' < cost s g := fun g hg => by
    have hg := List.head_eq_of_cons_eq hg
    subst hg
    rw [hres]
    by_cases c : (driveF s f).2.1.phase = 5
    · left; simp only [if_pos c]
    · right; exact ⟨(driveF s f).2.1, by simp only [if_neg c], c2 hmet c⟩
  suffices hs : ∃ st', TInv k o0 es H0 (helpF s [f]).1 st' (helpF s [f]).2 y from by
    obtain ⟨st', hs⟩ := hs
    exact ⟨st', hs, hdl, hcost⟩
  rw [hres]
  have hfr' := hds.fr
  have hsp' := hds.st
  have hd' := hds.desc
  rw [driveF_at ha] at hfr' hsp' hd' ⊢
  clear hres hdl hcost hmet c2 hds
  -- what stays where the store stays
  have stay : ∀ x', StkT k es H0 s st x' → (x' = [] → st ≠ 0) → (∀ i e, es[i]? = some e → LiesOn s k e.object.toNat → CovT x' i ∨ CovT y i) → TInv k o0 es H0 s st x' y := fun x' h1 h2 h3 =>
    ⟨hS, a2, hI.s1, hI.s2, hI.hl, hI.h0, hI.hd, h1, hI.fy, fun c _ => h2 c, h3⟩
  have hp : f.phase = 0 ∨ f.phase = 1 ∨ f.phase = 2 ∨ f.phase = 3 ∨ f.phase = 4 := by
    have : 0 ≤ f.phase ∧ f.phase ≤ 5 := by
      unfold frmB at hf
      simp only [Bool.and_eq_true] at hf
      have := hf.1.2
      simp [inB] at this
      omega
    omega
  rcases hp with p | p | p | p | p
  · have hr : driveM s f k ⟨o0, st, es⟩ e o h = (s, ⟨f.desc, if st = 0 then 1 else 4, 0⟩, -1) := by simp [driveM, p]
    rw [hr] at hfr' ⊢
    have h55 : ¬ (if st = 0 then (1 : Int) else 4) = 5 := by split <;> omega
    simp only [if_neg h55]
    refine ⟨st, stay _ (.inr ⟨_, rfl, hfr', hfn, h55, fun _ _ i e _ hi => ?_, fun c => ?_, fun c => ?_, fun c h => ?_⟩) (fun c => by simp at c) fun i e _ _ => .inl ⟨_, rfl, fun _ => ?_⟩⟩
    · simp only at hi; omega
    · simp only at c; split at c <;> omega
    · simp only at c; split at c <;> omega
    · simp only [h] at c; simp at c
    · simp only; omega
  · have hr : driveM s f k ⟨o0, st, es⟩ e o h = (if h.desc = f.desc then (s, onwardM es.length f 2, -1)
      else if 0 ≤ h.desc then (s, ⟨f.desc, 0, 0⟩, h.desc)
      else if h.version ≠ e.version then (s, ⟨f.desc, 3, 0⟩, -1)
      else (⟨s.heads.set o ⟨h.value, h.version, f.desc⟩, s.descs⟩, onwardM es.length f 2, -1)) := by simp [driveM, p]
    rw [hr] at hfr' hsp' ⊢
    clear hr hd'
    -- the frame behind this entry
    have onw : ∀ s' : StoreD, frmB s' (onwardM es.length f 2) = true → (st = 0 → ∀ (i : Nat) (e : EntS), es[i]? = some e → i ≤ j → LiesOn s' k e.object.toNat) → (onwardM es.length f 2).phase ≠ 5 ∧ (onwardM es.length f 2).phase ≠ 4 ∧ StkT k es H0 s' st [onwardM es.length f 2] := fun s' h1 h2 => by
      unfold onwardM at h1 ⊢
      by_cases c : f.place + 1 < (es.length : Int)
      · rw [if_pos c] at h1 ⊢
        refine ⟨by simp [p], by simp [p], .inr ⟨_, rfl, h1, hfn, by simp [p], fun _ h3 i e hi hlt => h2 h3 i e hi (by simp only at hlt; omega), fun q => ?_, fun q => ?_, fun q => ?_⟩⟩
        · simp only [p] at q; omega
        · simp only [p] at q; omega
        · simp only [p] at q; omega
      · rw [if_neg c] at h1 ⊢
        refine ⟨by simp, by simp, .inr ⟨_, rfl, h1, hfn, by simp, fun q => ?_, fun _ h3 i e hi => h2 h3 i e hi (by have := (List.getElem?_eq_some_iff.1 hi).1; omega), fun q => ?_, fun q => ?_⟩⟩
        · simp only at q; omega
        · simp only at q; omega
        · simp only at q; omega
    by_cases c1 : h.desc = f.desc
    · rw [if_pos c1] at hfr' hsp' ⊢
      obtain ⟨q1, q2, q3⟩ := onw s hfr' fun c i e' hi hle => by
        rcases Nat.lt_or_ge i j with d | d
        · exact hp1 p c i e' hi (by omega)
        · rw [(objn i e' hi).2 (by omega)]
          exact (liesAt a6).2 (by omega)
      simp only [if_neg q1]
      exact ⟨st, stay _ q3 (fun c => by simp at c) fun i e _ _ => .inl ⟨_, rfl, fun c => absurd c q2⟩⟩
    rw [if_neg c1] at hfr' hsp' ⊢
    have hm1 : h.desc = -1 := by omega
    rw [if_neg (by omega)] at hfr' hsp' ⊢
    by_cases c3 : h.version ≠ e.version
    · rw [if_pos c3] at hfr' hsp' ⊢
      refine ⟨st, stay _ (.inr ⟨_, rfl, hfr', hfn, by simp, fun q => ?_, fun q => ?_, fun _ c hg => ?_, fun q => ?_⟩) (fun c => by simp at c) fun i e _ _ => .inl ⟨_, rfl, fun c => ?_⟩⟩
      · simp at q
      · simp at q
      · rcases hT with ⟨_, t2, _⟩ | ⟨t1, _⟩
        · have := hg e (List.mem_of_getElem? a4) h0 (by rw [heo]; exact hh0)
          omega
        · omega
      · simp at q
      · simp at c
    · rw [if_neg c3] at hfr' hsp' ⊢
      have c3 : h.version = e.version := by omega
      have horig : h.value = h0.value ∧ h.version = h0.version := by
        rcases hT with ⟨t1, t2, _⟩ | ⟨t1, _, _, _, _, _, _, t3⟩
        · exact ⟨t1, t2⟩
        · have hg := hI.s1 t1 e (List.mem_of_getElem? a4) h0 (by rw [heo]; exact hh0)
          have := tmod_ne hv0 hv1
          omega
      have hlies : ∀ k' o', LiesOn ⟨s.heads.set o ⟨h.value, h.version, f.desc⟩, s.descs⟩ k' o' ↔ if o' = o then f.desc = (k' : Int) else LiesOn s k' o' := fun k' o' => lies_set a6
      have hup : ∀ o', LiesOn s k o' → LiesOn ⟨s.heads.set o ⟨h.value, h.version, f.desc⟩, s.descs⟩ k o' := fun o' hl => by
        rw [hlies]
        split
        · exact hfn
        · exact hl
      obtain ⟨q1, q2, q3⟩ := onw ⟨s.heads.set o ⟨h.value, h.version, f.desc⟩, s.descs⟩ hfr' fun c i e' hi hle => by
        rcases Nat.lt_or_ge i j with d | d
        · exact hup _ (hp1 p c i e' hi (by omega))
        · rw [hlies, if_pos ((objn i e' hi).2 (by omega))]
          exact hfn
      simp only [if_neg q1]
      refine ⟨st, hsp', a2, hI.s1, hI.s2, by simp [hI.hl], hI.h0, fun o' x x0 hx hx0 => ?_, q3, stk_mono hI.fy (fun g _ hg => hg) id fun _ o' hl => hup o' hl, fun c => by simp at c, fun i e _ _ => .inl ⟨_, rfl, fun c => absurd c q2⟩⟩
      by_cases ho : o = o'
      · subst ho
        simp only at hx
        rw [List.getElem?_set_self (List.getElem?_eq_some_iff.1 a6).1] at hx
        cases hx
        rw [hh0] at hx0
        cases hx0
        exact .inl ⟨horig.1, horig.2, .inr ⟨hfn, e, List.mem_of_getElem? a4, a5, by omega⟩, fun _ _ _ _ _ => hfn⟩
      · simp only at hx
        rw [List.getElem?_set_ne ho] at hx
        exact hI.hd o' x x0 hx hx0
  · have hr : driveM s f k ⟨o0, st, es⟩ e o h = (if st = 0 then ⟨s.heads, s.descs.set k ⟨o0, 1, es⟩⟩ else s, ⟨f.desc, 4, 0⟩, -1) := by simp [driveM, p]
    rw [hr] at hfr' hsp' ⊢
    simp only [show ¬ (4 : Int) = 5 by omega, if_false] at hfr' hsp' ⊢
    by_cases c : st = 0
    · simp only [if_pos c] at hfr' hsp' ⊢
      have hall := hp2 p c
      have hgood : GoodE es H0 := fun e' he' x0 hx0 => by
        obtain ⟨i, hi⟩ := List.getElem?_of_mem he'
        obtain ⟨x, hx, hxd⟩ := hall i e' hi
        rcases hI.hd _ x x0 hx hx0 with ⟨_, _, t | ⟨_, e2, t1, t2, t3⟩, _⟩ | ⟨t, _⟩
        · omega
        · obtain ⟨i2, hi2⟩ := List.getElem?_of_mem t1
          obtain ⟨o2, w1, w2⟩ := fits_obj hfd (i := i) hi
          have := obj_inj hfd.1 (i := i) (j := i2) hi hi2 (by omega)
          subst this
          rw [hi] at hi2
          cases hi2
          exact t3.symm
        · omega
      have hdn : (s.descs.set k ⟨o0, 1, es⟩)[k]? = some ⟨o0, 1, es⟩ := List.getElem?_set_self (List.getElem?_eq_some_iff.1 a2).1
      refine ⟨1, hsp', hdn, fun _ => hgood, fun h => by omega, hI.hl, hI.h0, fun o' x x0 hx hx0 => ?_, .inr ⟨_, rfl, hfr', hfn, by simp, fun q => by simp at q, fun q => by simp at q, fun q => by simp at q, fun _ => by omega⟩, stk_mono hI.fy (fun g hg1 hg => ?_) (fun h => by omega) (fun h => by omega), fun h => by simp at h, fun i e _ _ => .inl ⟨_, rfl, fun _ => by simp only; omega⟩⟩
      · rcases hI.hd o' x x0 hx hx0 with ⟨t1, t2, t3, _⟩ | ⟨t, _⟩
        · refine .inl ⟨t1, t2, t3, fun _ e' he' ho' _ => ?_⟩
          obtain ⟨i, hi⟩ := List.getElem?_of_mem he'
          obtain ⟨x', hx', hxd⟩ := hall i e' hi
          have : e'.object.toNat = o' := by omega
          rw [this, hx] at hx'
          cases hx'
          exact hxd
        · omega
      · unfold frmB at hg ⊢
        rw [hg1, Int.toNat_natCast] at hg ⊢
        rw [a2] at hg
        rw [hdn, List.length_set]
        exact hg
    · simp only [if_neg c] at hfr' hsp' ⊢
      exact ⟨st, stay _ (.inr ⟨_, rfl, hfr', hfn, by simp, fun q => by simp at q, fun q => by simp at q, fun q => by simp at q, fun _ => c⟩) (fun c => by simp at c) fun i e _ _ => .inl ⟨_, rfl, fun _ => by simp only; omega⟩⟩
  · have hr : driveM s f k ⟨o0, st, es⟩ e o h = (if st = 0 then ⟨s.heads, s.descs.set k ⟨o0, 2, es⟩⟩ else s, ⟨f.desc, 4, 0⟩, -1) := by simp [driveM, p]
    rw [hr] at hfr' hsp' ⊢
    simp only [show ¬ (4 : Int) = 5 by omega, if_false] at hfr' hsp' ⊢
    by_cases c : st = 0
    · simp only [if_pos c] at hfr' hsp' ⊢
      have hbad := hp3 p c
      have hdn : (s.descs.set k ⟨o0, 2, es⟩)[k]? = some ⟨o0, 2, es⟩ := List.getElem?_set_self (List.getElem?_eq_some_iff.1 a2).1
      refine ⟨2, hsp', hdn, fun h => by omega, fun _ => hbad, hI.hl, hI.h0, fun o' x x0 hx hx0 => ?_, .inr ⟨_, rfl, hfr', hfn, by simp, fun q => by simp at q, fun q => by simp at q, fun q => by simp at q, fun _ => by omega⟩, stk_mono hI.fy (fun g hg1 hg => ?_) (fun h => by omega) (fun h => by omega), fun h => by simp at h, fun i e _ _ => .inl ⟨_, rfl, fun _ => by simp only; omega⟩⟩
      · rcases hI.hd o' x x0 hx hx0 with ⟨t1, t2, t3, _⟩ | ⟨t, _⟩
        · exact .inl ⟨t1, t2, t3, fun h => by omega⟩
        · omega
      · unfold frmB at hg ⊢
        rw [hg1, Int.toNat_natCast] at hg ⊢
        rw [a2] at hg
        rw [hdn, List.length_set]
        exact hg
    · simp only [if_neg c] at hfr' hsp' ⊢
      exact ⟨st, stay _ (.inr ⟨_, rfl, hfr', hfn, by simp, fun q => by simp at q, fun q => by simp at q, fun q => by simp at q, fun _ => c⟩) (fun c => by simp at c) fun i e _ _ => .inl ⟨_, rfl, fun _ => by simp only; omega⟩⟩
  · have hst := hp4 p
    have hr : driveM s f k ⟨o0, st, es⟩ e o h = (if h.desc = f.desc then ⟨s.heads.set o (freeH ⟨o0, st, es⟩ e h), s.descs⟩ else s, onwardM es.length f 5, -1) := by simp [driveM, p]
    rw [hr] at hfr' hsp' ⊢
    clear hr hd'
    have onw : ∀ s' : StoreD, frmB s' (onwardM es.length f 5) = true → StkT k es H0 s' st (if (onwardM es.length f 5).phase = 5 then [] else [onwardM es.length f 5]) := fun s' h1 => by
      unfold onwardM at h1 ⊢
      by_cases c : f.place + 1 < (es.length : Int)
      · rw [if_pos c] at h1 ⊢
        rw [if_neg h5]
        exact .inr ⟨_, rfl, h1, hfn, h5, fun q => by simp only [p] at q; omega, fun q => by simp only [p] at q; omega, fun q => by simp only [p] at q; omega, fun _ => hst⟩
      · rw [if_neg c] at h1 ⊢
        exact .inl (by simp)
    have covn : ∀ (i : Nat) (e' : EntS), es[i]? = some e' → i ≠ j → CovT [f] i → CovT (if (onwardM es.length f 5).phase = 5 then [] else [onwardM es.length f 5]) i := fun i e' hi hne ⟨g, hg, hgp⟩ => by
      have hg := List.head_eq_of_cons_eq hg
      subst hg
      have hji := hgp p
      have hil := (List.getElem?_eq_some_iff.1 hi).1
      have c : f.place + 1 < (es.length : Int) := by omega
      unfold onwardM
      rw [if_pos c, if_neg h5]
      exact ⟨_, rfl, fun _ => by simp only; omega⟩
    by_cases c1 : h.desc = f.desc
    · simp only [if_pos c1] at hfr' hsp' ⊢
      have hm : (freeH ⟨o0, st, es⟩ e h).desc = -1 := by unfold freeH; split <;> rfl
      have hlies : ∀ k' o', LiesOn ⟨s.heads.set o (freeH ⟨o0, st, es⟩ e h), s.descs⟩ k' o' ↔ if o' = o then (freeH ⟨o0, st, es⟩ e h).desc = (k' : Int) else LiesOn s k' o' := fun k' o' => lies_set a6
      refine ⟨st, hsp', a2, hI.s1, hI.s2, by simp [hI.hl], hI.h0, fun o' x x0 hx hx0 => ?_, onw _ hfr', stk_mono hI.fy (fun g _ hg => hg) id fun c => absurd c hst, fun _ _ => hst, fun i e' hi hl => ?_⟩
      · by_cases ho : o = o'
        · subst ho
          simp only at hx
          rw [List.getElem?_set_self (List.getElem?_eq_some_iff.1 a6).1] at hx
          cases hx
          rw [hh0] at hx0
          cases hx0
          rcases hT with ⟨t1, t2, t3, t4⟩ | ⟨_, t2, _⟩
          · unfold freeH
            split
            · rename_i q
              exact .inr ⟨q.1, rfl, e, List.mem_of_getElem? a4, a5, q.2, rfl, by simp only [t2]⟩
            · rename_i q
              refine .inl ⟨t1, t2, .inl rfl, fun c e' he' ho' hw => ?_⟩
              have := same e' he' ho'
              subst this
              exact absurd ⟨c, hw⟩ q
          · omega
        · simp only at hx
          rw [List.getElem?_set_ne ho] at hx
          exact hI.hd o' x x0 hx hx0
      · rw [hlies] at hl
        split at hl
        · omega
        · rename_i q
          rcases hI.cov i e' hi hl with c | c
          · exact .inl (covn i e' hi (fun hh => q ((objn i e' hi).2 hh)) c)
          · exact .inr c
    · simp only [if_neg c1] at hfr' hsp' ⊢
      refine ⟨st, stay _ (onw s hfr') (fun _ => hst) fun i e' hi hl => ?_⟩
      rcases hI.cov i e' hi hl with c | c
      · refine .inl (covn i e' hi (fun hh => ?_) c)
        rw [(objn i e' hi).2 hh, liesAt a6] at hl
        omega
      · exact .inr c
end Go.Proofs.Ytchkbgekmoileaa

/- One step of a stack: the program's. -/
namespace Go.Proofs.Ytchkbgekmoileaa
open Go Go.RowKit
set_option linter.unusedVariables false
set_option linter.unusedSimpArgs false
set_option maxRecDepth 100000
set_option maxHeartbeats 4000000
attribute [local irreducible] VWP vops vdraw contV contD CallK Guard GuardV NextL Puts Runs RetOK RetQ RetO RetQO thenQ blockQ

theorem helpNil_ok (s : StoreD) (hs : s.small) :
    SatO Try.prog 41 [.bp 0 0, .fr 50 (rowsF [])] [.box [.rf 1 s.heads.length, .rf 2 s.descs.length], .root 36 (rowsH s.heads), .root 40 (rowsD 70 s.descs)]
      (.rf 3 0) [.box [.rf 1 s.heads.length, .rf 2 s.descs.length], .root 36 (rowsH s.heads), .root 40 (rowsD 70 s.descs), .root 50 (rowsF [])] := by
  have hof := ownFrames_ok [] (by simp)
  refine satO_of_body hT Try.func41 (by kernel_rfl) rfl (rs := [.tmp 4]) rfl (n := 59) rfl (by simp) rfl (m := 3) rfl ⟨⟨rfl, rfl⟩, ⟨rfl, rowsH_pur _⟩, ⟨rfl, rowsD_pur _ _⟩, by simp [keptL, newOk, rowsF_pur]⟩ fun E hE => ?_
  unfold St.initO
  have hneg : IntKind.i64.wrap (((0 : Nat) : Int) - 1) = -1 := by decide
  have hneg2 : IntKind.i64.wrap ((0 : Int) - 1) = -1 := by decide
  have F := And.intro @rowsH_len (And.intro @rowsD_len (And.intro @rowsF_len (And.intro @List.length_nil.{0} (And.intro hneg hneg2))))
  repeat' first
    | refine wSq fun _ hK => ?_
    | refine wRg ?_
    | refine wDr ?_
    | refine VWP_block ?_
    | refine VWP_skip ?_
    | refine VWP_exit ?_
    | refine VWP_ret ?_
    | (refine hK _ ?_; clear hK)
    | (clear hK; refine hK _ ?_; clear hK)
    | (clear hK; clear hK; refine hK _ ?_; clear hK)
    | (clear hK; clear hK; clear hK; refine hK _ ?_; clear hK)
    | (simp only [wHb, reduceCtorEq] at hb <;> try (exfalso; omega))
    | refine wCdx (fun hb => ?_) fun hb => ?_
    | refine wCax (c := by first | exact hof) (k := ?_)
    | simp only [go_sem, Nat.reduceLT, Nat.reduceLeDiff, Nat.reduceEqDiff, Nat.reduceAdd, Nat.reduceMul, Nat.reduceSub, reduceCtorEq, Int.reduceBEq, Int.reduceBNe, Int.reduceLT, Int.reduceLE, Int.reduceAdd, Int.reduceToNat, F]
    | simp (disch := omega) only [decide_eq_true_eq, if_pos, if_neg, wrap_id, le_maxLen, and_true, true_and, if_true, ite_true]
    | refine wGdx (fun hb => ?_) fun hb => ?_
  refine retO_mk [] rfl [.box [.rf 1 s.heads.length, .rf 2 s.descs.length], .root 36 (rowsH s.heads), .root 40 (rowsD 70 s.descs)] rfl (by simp [keepsL, updH, HpE]) rfl (by simp only [go_sem, Nat.reduceLT, Nat.reduceLeDiff, Nat.reduceEqDiff, Nat.reduceAdd, Nat.reduceMul, Nat.reduceSub, reduceCtorEq, vres]; rfl) (acc := _) rfl (by simp) rfl
theorem helpFull_ok (s : StoreD) (init : List FrameD) (f : FrameD) (k : Nat) (d : DescS) (j : Nat) (e : EntS) (o : Nat) (h : HeadD) (ha : AtP s f k d j e o h) (hv0 : 0 ≤ h.version) (hv1 : h.version ≤ 1000000) (hs : s.small) (r : StoreD × FrameD × Int) (hr : driveM s f k d e o h = r) (hm : 0 ≤ r.2.2) (hn : init.length + 1 = 130) :
    SatO Try.prog 41 [.bp 0 0, .fr 50 (rowsF (init ++ [f]))] [.box [.rf 1 s.heads.length, .rf 2 s.descs.length], .root 36 (rowsH s.heads), .root 40 (rowsD 70 s.descs)]
      (.rf 3 (init.length + 1)) [.box [.rf 1 s.heads.length, .rf 2 s.descs.length], .root 36 (rowsH s.heads), .root 40 (rowsD 70 s.descs), .root 50 (rowsF (init ++ [f]))] := by
  have hl := drive_ok s f k d j e o h ha hv0 hv1 hs r hr
  have ho := ownStore_ok s hs
  have hof := ownFrames_ok (init ++ [f]) (by simp; omega)
  have hlen : (init ++ [f]).length = init.length + 1 := by simp
  have hsub : IntKind.i64.wrap (((init.length + 1 : Nat) : Int) - 1) = init.length := by rw [wrap_id (by omega)]; omega
  have hk0 : (0 : Int) ≤ (init.length : Nat) := by omega
  have hmid := rowsF_mid init [] f
  have hput := rowsF_put init [] f r.2.1
  have hmore := rowsF_more init [] r.2.1 r.2.2
  have hlen2 : (init ++ [r.2.1]).length = init.length + 1 := by simp
  have hle3 : init.length + 1 + 1 ≤ (init ++ [r.2.1, ⟨r.2.2, 0, 0⟩]).length := by simp
  have hlt : init.length < init.length + 1 := by omega
  have hle : init.length ≤ init.length + 1 := by omega
  have e1 : r.1.heads.length = s.heads.length := by subst hr; unfold driveM; (repeat' split) <;> simp
  have e2 : r.1.descs.length = s.descs.length := by subst hr; unfold driveM; (repeat' split) <;> simp
  have t1 := rowsH_take r.1.heads
  have t2 := rowsD_take 70 r.1.descs
  rw [e1] at t1
  rw [e2] at t2
  have t3 : (rowsF (init ++ [r.2.1])).take init.length = rowsF init := by simp [rowsF]
  have t4 : (rowsF (init ++ [r.2.1])).take (init.length + 1) = rowsF (init ++ [r.2.1]) := by rw [List.take_of_length_le (by rw [rowsF_len, hlen2]; exact Nat.le_refl _)]
  have t5 : (rowsF (init ++ [f])).take (init.length + 1) = rowsF (init ++ [f]) := by rw [List.take_of_length_le (by rw [rowsF_len, hlen]; exact Nat.le_refl _)]
  have t6 : (rowsF (init ++ [r.2.1, ⟨r.2.2, 0, 0⟩])).take (init.length + 1 + 1) = rowsF (init ++ [r.2.1, ⟨r.2.2, 0, 0⟩]) := by rw [List.take_of_length_le (by rw [rowsF_len]; simp)]
  have hnq : (((init.length + 1 : Nat) : Int) == 130) = true := by simp; omega
  refine satO_of_body hT Try.func41 (by kernel_rfl) rfl (rs := [.tmp 4]) rfl (n := 59) rfl (by simp) rfl (m := 3) rfl ⟨⟨rfl, rfl⟩, ⟨rfl, rowsH_pur _⟩, ⟨rfl, rowsD_pur _ _⟩, by simp [keptL, newOk, rowsF_pur, rowsH_pur, rowsD_pur]⟩ fun E hE => ?_
  unfold St.initO
  unfold FrameD.cells at hl
  unfold StoreD.cells at ho
  have F := And.intro @vops_nilCheck (And.intro @vNil_bp (And.intro @rowsH_len (And.intro @rowsD_len (And.intro @rowsF_len (And.intro @rowsH_pur (And.intro @rowsD_pur (And.intro hlen (And.intro hlen2 (And.intro hsub (And.intro hk0 (And.intro hlt (And.intro hle (And.intro hmid (And.intro hput (And.intro hmore (And.intro @rowsH_take (And.intro @rowsD_take (And.intro @rowsF_take (And.intro t1 (And.intro t2 (And.intro @Nat.le_refl (And.intro hm hnq))))))))))))))))))))))
  repeat' first
    | refine wSq fun _ hK => ?_
    | refine wRg ?_
    | refine VWP_cls hT hM (id := 8) 9 [[0, 1, 2, 3, 4, 5, 6, 7, 8], [0, 1, 2, 3, 5, 6, 4, 7, 8]] (by kernel_rfl) ?_
    | refine And.intro ?_ ?_
    | exact trivial
    | refine wDr ?_
    | refine VWP_block ?_
    | refine VWP_skip ?_
    | refine VWP_exit ?_
    | refine VWP_ret ?_
    | (refine hK _ ?_; clear hK)
    | (clear hK; refine hK _ ?_; clear hK)
    | (clear hK; clear hK; refine hK _ ?_; clear hK)
    | (clear hK; clear hK; clear hK; refine hK _ ?_; clear hK)
    | (simp only [wHb, reduceCtorEq] at hb <;> try (exfalso; omega))
    | (refine VWP_cond2 true ?_ ?_ (fun hh => nomatch hh); focus (simp only [go_sem, Nat.reduceLT, Nat.reduceLeDiff, Nat.reduceEqDiff, Nat.reduceAdd, Nat.reduceMul, Nat.reduceSub, reduceCtorEq, F]; done); intro _)
    | (refine VWP_cond2 false ?_ (fun hh => nomatch hh) ?_; focus (simp only [go_sem, Nat.reduceLT, Nat.reduceLeDiff, Nat.reduceEqDiff, Nat.reduceAdd, Nat.reduceMul, Nat.reduceSub, reduceCtorEq, F]; done); intro _)
    | refine wCd (fun hb => ?_) fun hb => ?_
    | refine wCa (c := by first | exact hof | exact ho) (k := ?_)
    | refine wOw [6, 4, 5] (c := by exact hl) (k := ?_)
    | simp only [go_sem, Nat.reduceLT, Nat.reduceLeDiff, Nat.reduceEqDiff, Nat.reduceAdd, Nat.reduceMul, Nat.reduceSub, reduceCtorEq, F]
    | simp (disch := omega) only [decide_eq_true_eq, if_pos, if_neg, wrap_id, le_maxLen, and_true, true_and, if_true, ite_true]
    | refine wGd (fun hb => ?_) fun hb => ?_
  all_goals skip
  all_goals refine retO_mk [] rfl [.box [.rf 1 s.heads.length, .rf 2 s.descs.length], .root 36 (rowsH s.heads), .root 40 (rowsD 70 s.descs)] rfl (by simp [keepsL, updH, HpE, hput]) (acc1 := _) (by simp only [go_sem, Nat.reduceLT, Nat.reduceLeDiff, Nat.reduceEqDiff, Nat.reduceAdd, Nat.reduceMul, Nat.reduceSub, reduceCtorEq, exEs, exOCs, exOC, rowsH_len, rowsD_len, e1, e2, t1, t2, Nat.le_refl]; try rfl) (by simp only [go_sem, Nat.reduceLT, Nat.reduceLeDiff, Nat.reduceEqDiff, Nat.reduceAdd, Nat.reduceMul, Nat.reduceSub, reduceCtorEq, vres]; rfl) (acc := _) (by simp only [go_sem, Nat.reduceLT, Nat.reduceLeDiff, Nat.reduceEqDiff, Nat.reduceAdd, Nat.reduceMul, Nat.reduceSub, reduceCtorEq, wrap, exOV, exOA, exOC, rowsF_len, hlen, hlen2, hle, hle3, t3, t4, t5, t6, Nat.le_refl]; try rfl) (by simp) (by simp [rootOf, e1, e2])
theorem helpPush_ok (s : StoreD) (init : List FrameD) (f : FrameD) (k : Nat) (d : DescS) (j : Nat) (e : EntS) (o : Nat) (h : HeadD) (ha : AtP s f k d j e o h) (hv0 : 0 ≤ h.version) (hv1 : h.version ≤ 1000000) (hs : s.small) (r : StoreD × FrameD × Int) (hr : driveM s f k d e o h = r) (hm : 0 ≤ r.2.2) (h5 : ¬ r.2.1.phase = 5) (hn : init.length + 1 < 130) :
    SatO Try.prog 41 [.bp 0 0, .fr 50 (rowsF (init ++ [f]))] [.box [.rf 1 s.heads.length, .rf 2 s.descs.length], .root 36 (rowsH s.heads), .root 40 (rowsD 70 s.descs)]
      (.rf 5 (init.length + 1 + 1)) [.box [.rf 3 s.heads.length, .rf 4 s.descs.length], .root 36 (rowsH s.heads), .root 40 (rowsD 70 s.descs), .root 36 (rowsH r.1.heads), .root 40 (rowsD 70 r.1.descs), .root 50 (rowsF (init ++ [r.2.1, ⟨r.2.2, 0, 0⟩]))] := by
  have hl := drive_ok s f k d j e o h ha hv0 hv1 hs r hr
  have ho := ownStore_ok s hs
  have hof := ownFrames_ok (init ++ [f]) (by simp; omega)
  have hlen : (init ++ [f]).length = init.length + 1 := by simp
  have hsub : IntKind.i64.wrap (((init.length + 1 : Nat) : Int) - 1) = init.length := by rw [wrap_id (by omega)]; omega
  have hk0 : (0 : Int) ≤ (init.length : Nat) := by omega
  have hmid := rowsF_mid init [] f
  have hput := rowsF_put init [] f r.2.1
  have hmore := rowsF_more init [] r.2.1 r.2.2
  have hlen2 : (init ++ [r.2.1]).length = init.length + 1 := by simp
  have hle3 : init.length + 1 + 1 ≤ (init ++ [r.2.1, ⟨r.2.2, 0, 0⟩]).length := by simp
  have hlt : init.length < init.length + 1 := by omega
  have hle : init.length ≤ init.length + 1 := by omega
  have e1 : r.1.heads.length = s.heads.length := by subst hr; unfold driveM; (repeat' split) <;> simp
  have e2 : r.1.descs.length = s.descs.length := by subst hr; unfold driveM; (repeat' split) <;> simp
  have t1 := rowsH_take r.1.heads
  have t2 := rowsD_take 70 r.1.descs
  rw [e1] at t1
  rw [e2] at t2
  have t3 : (rowsF (init ++ [r.2.1])).take init.length = rowsF init := by simp [rowsF]
  have t4 : (rowsF (init ++ [r.2.1])).take (init.length + 1) = rowsF (init ++ [r.2.1]) := by rw [List.take_of_length_le (by rw [rowsF_len, hlen2]; exact Nat.le_refl _)]
  have t5 : (rowsF (init ++ [f])).take (init.length + 1) = rowsF (init ++ [f]) := by rw [List.take_of_length_le (by rw [rowsF_len, hlen]; exact Nat.le_refl _)]
  have t6 : (rowsF (init ++ [r.2.1, ⟨r.2.2, 0, 0⟩])).take (init.length + 1 + 1) = rowsF (init ++ [r.2.1, ⟨r.2.2, 0, 0⟩]) := by rw [List.take_of_length_le (by rw [rowsF_len]; simp)]
  have hnq : (((init.length + 1 : Nat) : Int) == 130) = false := by simp; omega
  have h5q : (r.2.1.phase == 5) = false := by simpa using h5
  have hnn : ¬ init.length + 1 = 130 := by omega
  refine satO_of_body hT Try.func41 (by kernel_rfl) rfl (rs := [.tmp 4]) rfl (n := 59) rfl (by simp) rfl (m := 3) rfl ⟨⟨rfl, rfl⟩, ⟨rfl, rowsH_pur _⟩, ⟨rfl, rowsD_pur _ _⟩, by simp [keptL, newOk, rowsF_pur, rowsH_pur, rowsD_pur]⟩ fun E hE => ?_
  unfold St.initO
  unfold FrameD.cells at hl
  unfold StoreD.cells at ho
  have F := And.intro @vops_nilCheck (And.intro @vNil_bp (And.intro @rowsH_len (And.intro @rowsD_len (And.intro @rowsF_len (And.intro @rowsH_pur (And.intro @rowsD_pur (And.intro hlen (And.intro hlen2 (And.intro hsub (And.intro hk0 (And.intro hlt (And.intro hle (And.intro hmid (And.intro hput (And.intro hmore (And.intro @rowsH_take (And.intro @rowsD_take (And.intro @rowsF_take (And.intro t1 (And.intro t2 (And.intro @Nat.le_refl (And.intro hm (And.intro h5q hnq)))))))))))))))))))))))
  repeat' first
    | refine wSq fun _ hK => ?_
    | refine wRg ?_
    | refine VWP_cls hT hM (id := 8) 9 [[0, 1, 2, 3, 4, 5, 6, 7, 8], [0, 1, 2, 3, 5, 6, 4, 7, 8]] (by kernel_rfl) ?_
    | refine And.intro ?_ ?_
    | exact trivial
    | refine wDr ?_
    | refine VWP_block ?_
    | refine VWP_skip ?_
    | refine VWP_exit ?_
    | refine VWP_ret ?_
    | (refine hK _ ?_; clear hK)
    | (clear hK; refine hK _ ?_; clear hK)
    | (clear hK; clear hK; refine hK _ ?_; clear hK)
    | (clear hK; clear hK; clear hK; refine hK _ ?_; clear hK)
    | (simp only [wHb, reduceCtorEq] at hb <;> try (exfalso; omega))
    | (refine VWP_cond2 true ?_ ?_ (fun hh => nomatch hh); focus (simp only [go_sem, Nat.reduceLT, Nat.reduceLeDiff, Nat.reduceEqDiff, Nat.reduceAdd, Nat.reduceMul, Nat.reduceSub, reduceCtorEq, F]; done); intro _)
    | (refine VWP_cond2 false ?_ (fun hh => nomatch hh) ?_; focus (simp only [go_sem, Nat.reduceLT, Nat.reduceLeDiff, Nat.reduceEqDiff, Nat.reduceAdd, Nat.reduceMul, Nat.reduceSub, reduceCtorEq, F]; done); intro _)
    | refine wCd (fun hb => ?_) fun hb => ?_
    | refine wCa (c := by first | exact hof | exact ho) (k := ?_)
    | refine wOw [6, 4, 5] (c := by exact hl) (k := ?_)
    | simp only [go_sem, Nat.reduceLT, Nat.reduceLeDiff, Nat.reduceEqDiff, Nat.reduceAdd, Nat.reduceMul, Nat.reduceSub, reduceCtorEq, F]
    | simp (disch := omega) only [decide_eq_true_eq, if_pos, if_neg, wrap_id, le_maxLen, and_true, true_and, if_true, ite_true]
    | refine wGd (fun hb => ?_) fun hb => ?_
  all_goals skip
  all_goals refine retO_mk [] rfl [.box [.rf 4 s.heads.length, .rf 5 s.descs.length], .root 36 (rowsH s.heads), .root 40 (rowsD 70 s.descs)] rfl (by simp [keepsL, updH, HpE, hput]) (acc1 := _) (by simp only [go_sem, Nat.reduceLT, Nat.reduceLeDiff, Nat.reduceEqDiff, Nat.reduceAdd, Nat.reduceMul, Nat.reduceSub, reduceCtorEq, exEs, exOCs, exOC, rowsH_len, rowsD_len, e1, e2, t1, t2, Nat.le_refl]; try rfl) (by simp only [go_sem, Nat.reduceLT, Nat.reduceLeDiff, Nat.reduceEqDiff, Nat.reduceAdd, Nat.reduceMul, Nat.reduceSub, reduceCtorEq, vres]; rfl) (acc := _) (by simp only [go_sem, Nat.reduceLT, Nat.reduceLeDiff, Nat.reduceEqDiff, Nat.reduceAdd, Nat.reduceMul, Nat.reduceSub, reduceCtorEq, wrap, exOV, exOA, exOC, rowsF_len, hlen, hlen2, hle, hle3, t3, t4, t5, t6, Nat.le_refl]; try rfl) (by simp) (by simp [rootOf, e1, e2])
theorem helpPop_ok (s : StoreD) (init : List FrameD) (f : FrameD) (k : Nat) (d : DescS) (j : Nat) (e : EntS) (o : Nat) (h : HeadD) (ha : AtP s f k d j e o h) (hv0 : 0 ≤ h.version) (hv1 : h.version ≤ 1000000) (hs : s.small) (r : StoreD × FrameD × Int) (hr : driveM s f k d e o h = r) (hm : ¬ 0 ≤ r.2.2) (h5 : r.2.1.phase = 5) (hn : init.length + 1 ≤ 130) :
    SatO Try.prog 41 [.bp 0 0, .fr 50 (rowsF (init ++ [f]))] [.box [.rf 1 s.heads.length, .rf 2 s.descs.length], .root 36 (rowsH s.heads), .root 40 (rowsD 70 s.descs)]
      (.rf 5 init.length) [.box [.rf 3 s.heads.length, .rf 4 s.descs.length], .root 36 (rowsH s.heads), .root 40 (rowsD 70 s.descs), .root 36 (rowsH r.1.heads), .root 40 (rowsD 70 r.1.descs), .root 50 (rowsF init)] := by
  have hl := drive_ok s f k d j e o h ha hv0 hv1 hs r hr
  have ho := ownStore_ok s hs
  have hof := ownFrames_ok (init ++ [f]) (by simp; omega)
  have hlen : (init ++ [f]).length = init.length + 1 := by simp
  have hsub : IntKind.i64.wrap (((init.length + 1 : Nat) : Int) - 1) = init.length := by rw [wrap_id (by omega)]; omega
  have hk0 : (0 : Int) ≤ (init.length : Nat) := by omega
  have hmid := rowsF_mid init [] f
  have hput := rowsF_put init [] f r.2.1
  have hmore := rowsF_more init [] r.2.1 r.2.2
  have hlen2 : (init ++ [r.2.1]).length = init.length + 1 := by simp
  have hle3 : init.length + 1 + 1 ≤ (init ++ [r.2.1, ⟨r.2.2, 0, 0⟩]).length := by simp
  have hlt : init.length < init.length + 1 := by omega
  have hle : init.length ≤ init.length + 1 := by omega
  have e1 : r.1.heads.length = s.heads.length := by subst hr; unfold driveM; (repeat' split) <;> simp
  have e2 : r.1.descs.length = s.descs.length := by subst hr; unfold driveM; (repeat' split) <;> simp
  have t1 := rowsH_take r.1.heads
  have t2 := rowsD_take 70 r.1.descs
  rw [e1] at t1
  rw [e2] at t2
  have t3 : (rowsF (init ++ [r.2.1])).take init.length = rowsF init := by simp [rowsF]
  have t4 : (rowsF (init ++ [r.2.1])).take (init.length + 1) = rowsF (init ++ [r.2.1]) := by rw [List.take_of_length_le (by rw [rowsF_len, hlen2]; exact Nat.le_refl _)]
  have t5 : (rowsF (init ++ [f])).take (init.length + 1) = rowsF (init ++ [f]) := by rw [List.take_of_length_le (by rw [rowsF_len, hlen]; exact Nat.le_refl _)]
  have t6 : (rowsF (init ++ [r.2.1, ⟨r.2.2, 0, 0⟩])).take (init.length + 1 + 1) = rowsF (init ++ [r.2.1, ⟨r.2.2, 0, 0⟩]) := by rw [List.take_of_length_le (by rw [rowsF_len]; simp)]
  have h5q : (r.2.1.phase == 5) = true := by simp [h5]
  refine satO_of_body hT Try.func41 (by kernel_rfl) rfl (rs := [.tmp 4]) rfl (n := 59) rfl (by simp) rfl (m := 3) rfl ⟨⟨rfl, rfl⟩, ⟨rfl, rowsH_pur _⟩, ⟨rfl, rowsD_pur _ _⟩, by simp [keptL, newOk, rowsF_pur, rowsH_pur, rowsD_pur]⟩ fun E hE => ?_
  unfold St.initO
  unfold FrameD.cells at hl
  unfold StoreD.cells at ho
  have F := And.intro @vops_nilCheck (And.intro @vNil_bp (And.intro @rowsH_len (And.intro @rowsD_len (And.intro @rowsF_len (And.intro @rowsH_pur (And.intro @rowsD_pur (And.intro hlen (And.intro hlen2 (And.intro hsub (And.intro hk0 (And.intro hlt (And.intro hle (And.intro hmid (And.intro hput (And.intro hmore (And.intro @rowsH_take (And.intro @rowsD_take (And.intro @rowsF_take (And.intro t1 (And.intro t2 (And.intro @Nat.le_refl (And.intro hm h5q))))))))))))))))))))))
  repeat' first
    | refine wSq fun _ hK => ?_
    | refine wRg ?_
    | refine VWP_cls hT hM (id := 8) 9 [[0, 1, 2, 3, 4, 5, 6, 7, 8], [0, 1, 2, 3, 5, 6, 4, 7, 8]] (by kernel_rfl) ?_
    | refine And.intro ?_ ?_
    | exact trivial
    | refine wDr ?_
    | refine VWP_block ?_
    | refine VWP_skip ?_
    | refine VWP_exit ?_
    | refine VWP_ret ?_
    | (refine hK _ ?_; clear hK)
    | (clear hK; refine hK _ ?_; clear hK)
    | (clear hK; clear hK; refine hK _ ?_; clear hK)
    | (clear hK; clear hK; clear hK; refine hK _ ?_; clear hK)
    | (simp only [wHb, reduceCtorEq] at hb <;> try (exfalso; omega))
    | (refine VWP_cond2 true ?_ ?_ (fun hh => nomatch hh); focus (simp only [go_sem, Nat.reduceLT, Nat.reduceLeDiff, Nat.reduceEqDiff, Nat.reduceAdd, Nat.reduceMul, Nat.reduceSub, reduceCtorEq, F]; done); intro _)
    | (refine VWP_cond2 false ?_ (fun hh => nomatch hh) ?_; focus (simp only [go_sem, Nat.reduceLT, Nat.reduceLeDiff, Nat.reduceEqDiff, Nat.reduceAdd, Nat.reduceMul, Nat.reduceSub, reduceCtorEq, F]; done); intro _)
    | refine wCd (fun hb => ?_) fun hb => ?_
    | refine wCa (c := by first | exact hof | exact ho) (k := ?_)
    | refine wOw [6, 4, 5] (c := by exact hl) (k := ?_)
    | simp only [go_sem, Nat.reduceLT, Nat.reduceLeDiff, Nat.reduceEqDiff, Nat.reduceAdd, Nat.reduceMul, Nat.reduceSub, reduceCtorEq, F]
    | simp (disch := omega) only [decide_eq_true_eq, if_pos, if_neg, wrap_id, le_maxLen, and_true, true_and, if_true, ite_true]
    | refine wGd (fun hb => ?_) fun hb => ?_
  all_goals skip
  all_goals refine retO_mk [] rfl [.box [.rf 4 s.heads.length, .rf 5 s.descs.length], .root 36 (rowsH s.heads), .root 40 (rowsD 70 s.descs)] rfl (by simp [keepsL, updH, HpE, hput]) (acc1 := _) (by simp only [go_sem, Nat.reduceLT, Nat.reduceLeDiff, Nat.reduceEqDiff, Nat.reduceAdd, Nat.reduceMul, Nat.reduceSub, reduceCtorEq, exEs, exOCs, exOC, rowsH_len, rowsD_len, e1, e2, t1, t2, Nat.le_refl]; try rfl) (by simp only [go_sem, Nat.reduceLT, Nat.reduceLeDiff, Nat.reduceEqDiff, Nat.reduceAdd, Nat.reduceMul, Nat.reduceSub, reduceCtorEq, vres]; rfl) (acc := _) (by simp only [go_sem, Nat.reduceLT, Nat.reduceLeDiff, Nat.reduceEqDiff, Nat.reduceAdd, Nat.reduceMul, Nat.reduceSub, reduceCtorEq, wrap, exOV, exOA, exOC, rowsF_len, hlen, hlen2, hle, hle3, t3, t4, t5, t6, Nat.le_refl]; try rfl) (by simp) (by simp [rootOf, e1, e2])
theorem helpPut_ok (s : StoreD) (init : List FrameD) (f : FrameD) (k : Nat) (d : DescS) (j : Nat) (e : EntS) (o : Nat) (h : HeadD) (ha : AtP s f k d j e o h) (hv0 : 0 ≤ h.version) (hv1 : h.version ≤ 1000000) (hs : s.small) (r : StoreD × FrameD × Int) (hr : driveM s f k d e o h = r) (hm : ¬ 0 ≤ r.2.2) (h5 : ¬ r.2.1.phase = 5) (hn : init.length + 1 ≤ 130) :
    SatO Try.prog 41 [.bp 0 0, .fr 50 (rowsF (init ++ [f]))] [.box [.rf 1 s.heads.length, .rf 2 s.descs.length], .root 36 (rowsH s.heads), .root 40 (rowsD 70 s.descs)]
      (.rf 5 (init.length + 1)) [.box [.rf 3 s.heads.length, .rf 4 s.descs.length], .root 36 (rowsH s.heads), .root 40 (rowsD 70 s.descs), .root 36 (rowsH r.1.heads), .root 40 (rowsD 70 r.1.descs), .root 50 (rowsF (init ++ [r.2.1]))] := by
  have hl := drive_ok s f k d j e o h ha hv0 hv1 hs r hr
  have ho := ownStore_ok s hs
  have hof := ownFrames_ok (init ++ [f]) (by simp; omega)
  have hlen : (init ++ [f]).length = init.length + 1 := by simp
  have hsub : IntKind.i64.wrap (((init.length + 1 : Nat) : Int) - 1) = init.length := by rw [wrap_id (by omega)]; omega
  have hk0 : (0 : Int) ≤ (init.length : Nat) := by omega
  have hmid := rowsF_mid init [] f
  have hput := rowsF_put init [] f r.2.1
  have hmore := rowsF_more init [] r.2.1 r.2.2
  have hlen2 : (init ++ [r.2.1]).length = init.length + 1 := by simp
  have hle3 : init.length + 1 + 1 ≤ (init ++ [r.2.1, ⟨r.2.2, 0, 0⟩]).length := by simp
  have hlt : init.length < init.length + 1 := by omega
  have hle : init.length ≤ init.length + 1 := by omega
  have e1 : r.1.heads.length = s.heads.length := by subst hr; unfold driveM; (repeat' split) <;> simp
  have e2 : r.1.descs.length = s.descs.length := by subst hr; unfold driveM; (repeat' split) <;> simp
  have t1 := rowsH_take r.1.heads
  have t2 := rowsD_take 70 r.1.descs
  rw [e1] at t1
  rw [e2] at t2
  have t3 : (rowsF (init ++ [r.2.1])).take init.length = rowsF init := by simp [rowsF]
  have t4 : (rowsF (init ++ [r.2.1])).take (init.length + 1) = rowsF (init ++ [r.2.1]) := by rw [List.take_of_length_le (by rw [rowsF_len, hlen2]; exact Nat.le_refl _)]
  have t5 : (rowsF (init ++ [f])).take (init.length + 1) = rowsF (init ++ [f]) := by rw [List.take_of_length_le (by rw [rowsF_len, hlen]; exact Nat.le_refl _)]
  have t6 : (rowsF (init ++ [r.2.1, ⟨r.2.2, 0, 0⟩])).take (init.length + 1 + 1) = rowsF (init ++ [r.2.1, ⟨r.2.2, 0, 0⟩]) := by rw [List.take_of_length_le (by rw [rowsF_len]; simp)]
  have h5q : (r.2.1.phase == 5) = false := by simpa using h5
  refine satO_of_body hT Try.func41 (by kernel_rfl) rfl (rs := [.tmp 4]) rfl (n := 59) rfl (by simp) rfl (m := 3) rfl ⟨⟨rfl, rfl⟩, ⟨rfl, rowsH_pur _⟩, ⟨rfl, rowsD_pur _ _⟩, by simp [keptL, newOk, rowsF_pur, rowsH_pur, rowsD_pur]⟩ fun E hE => ?_
  unfold St.initO
  unfold FrameD.cells at hl
  unfold StoreD.cells at ho
  have F := And.intro @vops_nilCheck (And.intro @vNil_bp (And.intro @rowsH_len (And.intro @rowsD_len (And.intro @rowsF_len (And.intro @rowsH_pur (And.intro @rowsD_pur (And.intro hlen (And.intro hlen2 (And.intro hsub (And.intro hk0 (And.intro hlt (And.intro hle (And.intro hmid (And.intro hput (And.intro hmore (And.intro @rowsH_take (And.intro @rowsD_take (And.intro @rowsF_take (And.intro t1 (And.intro t2 (And.intro @Nat.le_refl (And.intro hm h5q))))))))))))))))))))))
  repeat' first
    | refine wSq fun _ hK => ?_
    | refine wRg ?_
    | refine VWP_cls hT hM (id := 8) 9 [[0, 1, 2, 3, 4, 5, 6, 7, 8], [0, 1, 2, 3, 5, 6, 4, 7, 8]] (by kernel_rfl) ?_
    | refine And.intro ?_ ?_
    | exact trivial
    | refine wDr ?_
    | refine VWP_block ?_
    | refine VWP_skip ?_
    | refine VWP_exit ?_
    | refine VWP_ret ?_
    | (refine hK _ ?_; clear hK)
    | (clear hK; refine hK _ ?_; clear hK)
    | (clear hK; clear hK; refine hK _ ?_; clear hK)
    | (clear hK; clear hK; clear hK; refine hK _ ?_; clear hK)
    | (simp only [wHb, reduceCtorEq] at hb <;> try (exfalso; omega))
    | (refine VWP_cond2 true ?_ ?_ (fun hh => nomatch hh); focus (simp only [go_sem, Nat.reduceLT, Nat.reduceLeDiff, Nat.reduceEqDiff, Nat.reduceAdd, Nat.reduceMul, Nat.reduceSub, reduceCtorEq, F]; done); intro _)
    | (refine VWP_cond2 false ?_ (fun hh => nomatch hh) ?_; focus (simp only [go_sem, Nat.reduceLT, Nat.reduceLeDiff, Nat.reduceEqDiff, Nat.reduceAdd, Nat.reduceMul, Nat.reduceSub, reduceCtorEq, F]; done); intro _)
    | refine wCd (fun hb => ?_) fun hb => ?_
    | refine wCa (c := by first | exact hof | exact ho) (k := ?_)
    | refine wOw [6, 4, 5] (c := by exact hl) (k := ?_)
    | simp only [go_sem, Nat.reduceLT, Nat.reduceLeDiff, Nat.reduceEqDiff, Nat.reduceAdd, Nat.reduceMul, Nat.reduceSub, reduceCtorEq, F]
    | simp (disch := omega) only [decide_eq_true_eq, if_pos, if_neg, wrap_id, le_maxLen, and_true, true_and, if_true, ite_true]
    | refine wGd (fun hb => ?_) fun hb => ?_
  all_goals skip
  all_goals refine retO_mk [] rfl [.box [.rf 4 s.heads.length, .rf 5 s.descs.length], .root 36 (rowsH s.heads), .root 40 (rowsD 70 s.descs)] rfl (by simp [keepsL, updH, HpE, hput]) (acc1 := _) (by simp only [go_sem, Nat.reduceLT, Nat.reduceLeDiff, Nat.reduceEqDiff, Nat.reduceAdd, Nat.reduceMul, Nat.reduceSub, reduceCtorEq, exEs, exOCs, exOC, rowsH_len, rowsD_len, e1, e2, t1, t2, Nat.le_refl]; try rfl) (by simp only [go_sem, Nat.reduceLT, Nat.reduceLeDiff, Nat.reduceEqDiff, Nat.reduceAdd, Nat.reduceMul, Nat.reduceSub, reduceCtorEq, vres]; rfl) (acc := _) (by simp only [go_sem, Nat.reduceLT, Nat.reduceLeDiff, Nat.reduceEqDiff, Nat.reduceAdd, Nat.reduceMul, Nat.reduceSub, reduceCtorEq, wrap, exOV, exOA, exOC, rowsF_len, hlen, hlen2, hle, hle3, t3, t4, t5, t6, Nat.le_refl]; try rfl) (by simp) (by simp [rootOf, e1, e2])
end Go.Proofs.Ytchkbgekmoileaa

/- A step of a stack, in one statement each; the program's finish. -/
namespace Go.Proofs.Ytchkbgekmoileaa
open Go Go.RowKit
set_option linter.unusedVariables false
set_option linter.unusedSimpArgs false
set_option maxRecDepth 100000
set_option maxHeartbeats 4000000
attribute [local irreducible] VWP vops vdraw contV contD CallK Guard GuardV NextL Puts Runs RetOK RetQ RetO RetQO thenQ blockQ
attribute [local irreducible] NextN

/-- A step that moves nothing: the stack is full, and its last frame meets another descriptor. -/
def stuckB (s : StoreD) (fs : List FrameD) : Bool := match fs.getLast? with
  | none => true
  | some f => decide (0 ≤ (driveF s f).2.2) && decide (fs.length = 130)
theorem stuck_help {s : StoreD} {fs : List FrameD} (h : stuckB s fs = true) : helpF s fs = (s, fs) := by
  rcases List.eq_nil_or_concat fs with rfl | ⟨init, f, rfl⟩
  · rfl
  · rw [List.concat_eq_append] at *
    simp [stuckB] at h
    rw [helpF_snoc, if_pos h.1, if_pos (by have := h.2; omega)]
theorem helpStuck_ok (s : StoreD) (fs : List FrameD) (hi : HelpI s fs) (hs : s.small) (h : stuckB s fs = true) :
    SatO Try.prog 41 [.bp 0 0, .fr 50 (rowsF fs)] [.box [.rf 1 s.heads.length, .rf 2 s.descs.length], .root 36 (rowsH s.heads), .root 40 (rowsD 70 s.descs)]
      (.rf 3 fs.length) [.box [.rf 1 s.heads.length, .rf 2 s.descs.length], .root 36 (rowsH s.heads), .root 40 (rowsD 70 s.descs), .root 50 (rowsF fs)] := by
  rcases List.eq_nil_or_concat fs with rfl | ⟨init, f, rfl⟩
  · exact helpNil_ok s hs
  · rw [List.concat_eq_append] at *
    simp [stuckB] at h
    obtain ⟨k, d, j, e, o, hd, ha, h1, h2, h3, h4⟩ := drv_at hi.st (hi.fr f (by simp))
    rw [driveF_at ha] at h
    have := helpFull_ok s init f k d j e o hd ha h1 h2 hs _ rfl h.1 (by have := h.2; omega)
    simpa using this
theorem helpMoves_ok (s : StoreD) (fs : List FrameD) (hi : HelpI s fs) (hs : s.small) (h : stuckB s fs = false) (r : StoreD × List FrameD) (hr : helpF s fs = r) :
    SatO Try.prog 41 [.bp 0 0, .fr 50 (rowsF fs)] [.box [.rf 1 s.heads.length, .rf 2 s.descs.length], .root 36 (rowsH s.heads), .root 40 (rowsD 70 s.descs)]
      (.rf 5 r.2.length) [.box [.rf 3 s.heads.length, .rf 4 s.descs.length], .root 36 (rowsH s.heads), .root 40 (rowsD 70 s.descs), .root 36 (rowsH r.1.heads), .root 40 (rowsD 70 r.1.descs), .root 50 (rowsF r.2)] := by
  rcases List.eq_nil_or_concat fs with rfl | ⟨init, f, rfl⟩
  · simp [stuckB] at h
  · rw [List.concat_eq_append] at *
    simp [stuckB] at h
    have hlen := hi.len
    simp at hlen
    obtain ⟨k, d, j, e, o, hd, ha, h1, h2, h3, h4⟩ := drv_at hi.st (hi.fr f (by simp))
    rw [helpF_snoc] at hr
    rw [driveF_at ha] at h hr
    by_cases hm : 0 ≤ (driveM s f k d e o hd).2.2
    · have hst := (driveM_step hi.st (hi.fr f (by simp)) ha h1 h2 h3 h4).same hm
      rw [if_pos hm, if_neg (by have := h hm; omega)] at hr
      subst hr
      have := helpPush_ok s init f k d j e o hd ha h1 h2 hs _ rfl hm (driveM_bnd hm) (by have := h hm; omega)
      simp only [hst] at this
      simpa using this
    · rw [if_neg hm] at hr
      by_cases h5 : (driveM s f k d e o hd).2.1.phase = 5
      · rw [if_pos h5] at hr
        subst hr
        exact helpPop_ok s init f k d j e o hd ha h1 h2 hs _ rfl hm h5 (by omega)
      · rw [if_neg h5] at hr
        subst hr
        have := helpPut_ok s init f k d j e o hd ha h1 h2 hs _ rfl hm h5 (by omega)
        simpa using this

theorem finF_step (m : Nat) {s : StoreD} {fs : List FrameD} (h : fs ≠ []) : finF (m + 1) s fs = ((finF m (helpF s fs).1 (helpF s fs).2).1, (finF m (helpF s fs).1 (helpF s fs).2).2.1, (finF m (helpF s fs).1 (helpF s fs).2).2.2 + 1) := by rw [finF, if_neg h]
theorem finF_nil (m : Nat) (s : StoreD) : finF m s [] = (s, [], 0) := by cases m <;> simp [finF]
/-- What a loop of finish knows: how many steps there were, the store, the stack. -/
structure FinX where
  i : Nat
  s : StoreD
  fs : List FrameD
def FinX.tl (tf : TypeId) (m : Nat) (x : FinX) : List (Nat × VV) := if x.i = 0 then [(0, .bp 0 0), (1, .fr tf (rowsF x.fs)), (2, .int .i64 m), (8, .int .i64 x.i)] else [(0, .bp 0 0), (1, .rf 5 x.fs.length), (2, .int .i64 m), (8, .int .i64 x.i)]
def FinX.hl (th td te tf : TypeId) (nh nd : Nat) (x : FinX) : List (Nat × Ent) := if x.i = 0 then [(0, .box [.rf 1 nh, .rf 2 nd]), (1, .root th (rowsH x.s.heads)), (2, .root td (rowsD te x.s.descs))]
  else [(0, .box [.rf 3 nh, .rf 4 nd]), (3, .root th (rowsH x.s.heads)), (4, .root td (rowsD te x.s.descs)), (5, .root tf (rowsF x.fs))]
structure FinJ (m : Nat) (s0 : StoreD) (fs0 : List FrameD) (x : FinX) : Prop where
  inv : HelpI x.s x.fs
  tin : x.s.tiny
  le : x.i ≤ m
  hl : x.s.heads.length = s0.heads.length
  dl : x.s.descs.length = s0.descs.length
  zero : x.i = 0 → x.s = s0 ∧ x.fs = fs0
  res : finF m s0 fs0 = ((finF (m - x.i) x.s x.fs).1, (finF (m - x.i) x.s x.fs).2.1, x.i + (finF (m - x.i) x.s x.fs).2.2)
theorem finJ_step {m : Nat} {s0 : StoreD} {fs0 : List FrameD} {x : FinX} (h : FinJ m s0 fs0 x) (hi : x.i < m) (hne : x.fs ≠ []) : FinJ m s0 fs0 ⟨x.i + 1, (helpF x.s x.fs).1, (helpF x.s x.fs).2⟩ := by
  have hk := helpF_keeps h.inv
  refine ⟨hk.inv, helpF_tiny h.inv h.tin, hi, by rw [← h.hl]; exact hk.hl, by rw [← h.dl]; exact hk.dl, fun hh => absurd hh (Nat.succ_ne_zero _), ?_⟩
  rw [h.res]
  simp only
  have e : m - x.i = (m - (x.i + 1)) + 1 := by omega
  rw [e, finF_step _ hne]
  simp only [Prod.mk.injEq, true_and]
  omega
theorem finish_ok (s0 : StoreD) (fs0 : List FrameD) (m : Nat) (hi : HelpI s0 fs0) (hs : s0.tiny) (hm : 1 ≤ m) (hm2 : m ≤ 1048576) (hne : fs0 ≠ []) (hst : stuckB s0 fs0 = false) (r : StoreD × List FrameD × Nat) (hr : finF m s0 fs0 = r) :
    SatO Try.prog 27 [.bp 0 0, .fr 50 (rowsF fs0), .int .i64 m] [.box [.rf 1 s0.heads.length, .rf 2 s0.descs.length], .root 36 (rowsH s0.heads), .root 40 (rowsD 70 s0.descs)]
      (.tup [.int .i64 r.2.2, .bool (decide (r.2.1 = []))]) [.box [.rf 3 s0.heads.length, .rf 4 s0.descs.length], .dead, .dead, .root 36 (rowsH r.1.heads), .root 40 (rowsD 70 r.1.descs)] := by
  refine satO_of_body hT Try.func27 (by kernel_rfl) rfl (rs := [.tmp 6, .tmp 7]) rfl (n := 26) rfl (by simp) rfl (m := 3) rfl ⟨⟨rfl, rfl⟩, trivial, trivial, by simp [keptL, newOk, rowsH_pur, rowsD_pur]⟩ fun E hE => ?_
  unfold St.initO
  have F := (Eq.refl 0)
  repeat' first
    | refine wSq fun _ hK => ?_
    | refine wRg ?_
    | refine wDr ?_
    | refine VWP_block ?_
    | refine VWP_skip ?_
    | refine VWP_exit ?_
    | refine VWP_ret ?_
    | (refine hK _ ?_; clear hK)
    | (clear hK; refine hK _ ?_; clear hK)
    | (clear hK; clear hK; refine hK _ ?_; clear hK)
    | (clear hK; clear hK; clear hK; refine hK _ ?_; clear hK)
    | (simp only [wHb, reduceCtorEq] at hb <;> try (exfalso; omega))
    | refine wCd (fun hb => ?_) fun hb => ?_
    | simp only [go_sem, Nat.reduceLT, Nat.reduceLeDiff, Nat.reduceEqDiff, Nat.reduceAdd, Nat.reduceMul, Nat.reduceSub, reduceCtorEq, F]
    | simp (disch := omega) only [decide_eq_true_eq, if_pos, if_neg, wrap_id, le_maxLen, and_true, true_and, if_true, ite_true]
    | refine wGd (fun hb => ?_) fun hb => ?_
  refine VWP_loopN hE (X := FinX) (FinX.tl 50 m) (FinX.hl 36 40 70 50 s0.heads.length s0.descs.length) (fun x => m - x.i) (FinJ m s0 fs0) [0, 1, 2, 3, 4, 5] ⟨0, s0, fs0⟩ ⟨hi, hs, by simp, rfl, rfl, fun _ => ⟨rfl, rfl⟩, by simp⟩ (by decide) (by decide) (by simp [updV, FinX.tl, renV, renA, renC]) (by simp [updH, HpE, FinX.hl, renH_at, renE, renC, rowsH_pur, rowsD_pur]) ?_
  rintro ⟨i, s, fs⟩ hJ
  have hinv := hJ.inv
  have hle : i ≤ m := hJ.le
  have hhl : s.heads.length = s0.heads.length := hJ.hl
  have hdl : s.descs.length = s0.descs.length := hJ.dl
  have hres := hJ.res
  have htin := hJ.tin
  simp only at hinv hres htin
  have hlen := hinv.len
  have hw := wrap_id (x := (i : Int) + 1) (by omega)
  obtain ⟨⟨s1, fs1⟩, h1⟩ : ∃ q, helpF s fs = q := ⟨_, rfl⟩
  rcases Nat.eq_zero_or_pos i with hi0 | hi0
  · subst hi0
    obtain ⟨rfl, rfl⟩ := hJ.zero rfl
    have hc := helpMoves_ok s fs hi hs.small hst _ h1
    have hJ2 := finJ_step hJ (by show 0 < m; omega) hne
    simp only [h1] at hJ2
    have hpos : 0 < fs.length := List.length_pos_iff.2 hne
    have hm0 : (0 : Int) < (m : Int) := by omega
    have hp0 : (0 : Int) < (fs.length : Int) := by omega
    simp only [FinX.tl, FinX.hl, if_pos]
    have F := And.intro @rowsF_len (And.intro @rowsH_len (And.intro @rowsD_len (And.intro @rowsH_pur (And.intro @rowsD_pur (And.intro hp0 hm0)))))
    repeat' first
      | refine wSq fun _ hK => ?_
      | refine wRg ?_
      | refine wDr ?_
      | refine VWP_block ?_
      | refine VWP_skip ?_
      | refine VWP_exit ?_
      | refine VWP_ret ?_
      | (refine hK _ ?_; clear hK)
      | (clear hK; refine hK _ ?_; clear hK)
      | (clear hK; clear hK; refine hK _ ?_; clear hK)
      | (clear hK; clear hK; clear hK; refine hK _ ?_; clear hK)
      | (simp only [wHb, reduceCtorEq] at hb <;> try (exfalso; omega))
      | refine wCd (fun hb => ?_) fun hb => ?_
      | refine wOw [0, 1, 2] (c := by exact hc) (k := ?_)
      | simp only [go_sem, Nat.reduceLT, Nat.reduceLeDiff, Nat.reduceEqDiff, Nat.reduceAdd, Nat.reduceMul, Nat.reduceSub, reduceCtorEq, F]
      | simp (disch := omega) only [decide_eq_true_eq, if_pos, if_neg, wrap_id, le_maxLen, and_true, true_and, if_true, ite_true]
      | refine wGd (fun hb => ?_) fun hb => ?_
    all_goals refine nextN [] rfl [0, 1, 2, 6, 7, 8] ⟨1, s1, fs1⟩ rfl (by decide) (by decide) hJ2 (by simp only; omega) (by simp [updV, tmL, FinX.tl, renV, renA, renC]) (by simp [updH, hpL, FinX.hl, renH_at, renE, renC, rowsH_pur, rowsD_pur, rowsF_pur])
  · have hi1 : ¬ i = 0 := by omega
    simp only [FinX.tl, FinX.hl, if_neg hi1]
    by_cases hgo : fs ≠ [] ∧ i < m
    · obtain ⟨hne1, him⟩ := hgo
      have hpos : 0 < fs.length := List.length_pos_iff.2 hne1
      have hm0 : (i : Int) < (m : Int) := by omega
      have hp0 : (0 : Int) < (fs.length : Int) := by omega
      have hJ2 := finJ_step hJ him hne1
      simp only [h1] at hJ2
      rcases (Bool.eq_false_or_eq_true (stuckB s fs)) with hsk | hsk
      · have hc := helpStuck_ok s fs hinv htin.small hsk
        rw [hhl, hdl] at hc
        rw [stuck_help hsk] at h1
        cases h1
        have F := And.intro @rowsF_len (And.intro @rowsF_take (And.intro @rowsF_pur (And.intro @rowsH_len (And.intro @rowsD_len (And.intro @rowsH_pur (And.intro @rowsD_pur (And.intro hp0 hm0)))))))
        repeat' first
          | refine wSq fun _ hK => ?_
          | refine wRg ?_
          | refine wDr ?_
          | refine VWP_block ?_
          | refine VWP_skip ?_
          | refine VWP_exit ?_
          | refine VWP_ret ?_
          | (refine hK _ ?_; clear hK)
          | (clear hK; refine hK _ ?_; clear hK)
          | (clear hK; clear hK; refine hK _ ?_; clear hK)
          | (clear hK; clear hK; clear hK; refine hK _ ?_; clear hK)
          | (simp only [wHb, reduceCtorEq] at hb <;> try (exfalso; omega))
          | refine wCd (fun hb => ?_) fun hb => ?_
          | refine wOw [0, 3, 4] (c := by exact hc) (k := ?_)
          | simp only [go_sem, Nat.reduceLT, Nat.reduceLeDiff, Nat.reduceEqDiff, Nat.reduceAdd, Nat.reduceMul, Nat.reduceSub, reduceCtorEq, F]
          | simp (disch := omega) only [decide_eq_true_eq, if_pos, if_neg, wrap_id, le_maxLen, and_true, true_and, if_true, ite_true]
          | refine wGd (fun hb => ?_) fun hb => ?_
        all_goals refine nextN [] rfl [0, 1, 2, 3, 4, 6] ⟨i + 1, s, fs⟩ rfl (by decide) (by decide) hJ2 (by simp only; omega) (by simp [updV, tmL, FinX.tl, renV, renA, renC, hw]) (by simp [updH, hpL, FinX.hl, renH_at, renE, renC, rowsH_pur, rowsD_pur, rowsF_pur])
      · have hc := helpMoves_ok s fs hinv htin.small hsk _ h1
        rw [hhl, hdl] at hc
        have F := And.intro @rowsF_len (And.intro @rowsF_take (And.intro @rowsF_pur (And.intro @rowsH_len (And.intro @rowsD_len (And.intro @rowsH_pur (And.intro @rowsD_pur (And.intro hp0 hm0)))))))
        repeat' first
          | refine wSq fun _ hK => ?_
          | refine wRg ?_
          | refine wDr ?_
          | refine VWP_block ?_
          | refine VWP_skip ?_
          | refine VWP_exit ?_
          | refine VWP_ret ?_
          | (refine hK _ ?_; clear hK)
          | (clear hK; refine hK _ ?_; clear hK)
          | (clear hK; clear hK; refine hK _ ?_; clear hK)
          | (clear hK; clear hK; clear hK; refine hK _ ?_; clear hK)
          | (simp only [wHb, reduceCtorEq] at hb <;> try (exfalso; omega))
          | refine wCd (fun hb => ?_) fun hb => ?_
          | refine wOw [0, 3, 4] (c := by exact hc) (k := ?_)
          | simp only [go_sem, Nat.reduceLT, Nat.reduceLeDiff, Nat.reduceEqDiff, Nat.reduceAdd, Nat.reduceMul, Nat.reduceSub, reduceCtorEq, F]
          | simp (disch := omega) only [decide_eq_true_eq, if_pos, if_neg, wrap_id, le_maxLen, and_true, true_and, if_true, ite_true]
          | refine wGd (fun hb => ?_) fun hb => ?_
        all_goals refine nextN [] rfl [0, 1, 2, 6, 7, 8] ⟨i + 1, s1, fs1⟩ rfl (by decide) (by decide) hJ2 (by simp only; omega) (by simp [updV, tmL, FinX.tl, renV, renA, renC, hw]) (by simp [updH, hpL, FinX.hl, renH_at, renE, renC, rowsH_pur, rowsD_pur, rowsF_pur])
    · have hfin : finF (m - i) s fs = (s, fs, 0) := by
        by_cases hf : fs = []
        · subst hf; exact finF_nil _ _
        · have h3 : ¬ i < m := fun h => hgo ⟨hf, h⟩
          have : m - i = 0 := by omega
          rw [this]; rfl
      rw [hfin, hr] at hres
      simp only at hres
      subst hres
      have t1 := rowsH_take s.heads
      have t2 := rowsD_take 70 s.descs
      rw [hhl] at t1
      rw [hdl] at t2
      have hdn : decide ((fs.length : Int) = 0) = decide (fs = []) := by
        cases fs with
        | nil => rfl
        | cons f fs => simp; omega
      have hbn : ((fs.length : Int) == 0) = decide (fs = []) := by
        cases fs with
        | nil => rfl
        | cons f fs => simp; omega
      have hgo2 : 0 < (fs.length : Int) → ¬ (i : Int) < (m : Int) := fun h hh => hgo ⟨fun h2 => by subst h2; simp at h, by omega⟩
      have F := And.intro @rowsF_len hbn
      repeat' first
        | refine wSq fun _ hK => ?_
        | refine wRg ?_
        | refine wDr ?_
        | refine VWP_block ?_
        | refine VWP_skip ?_
        | refine VWP_exit ?_
        | refine VWP_ret ?_
        | (refine hK _ ?_; clear hK)
        | (clear hK; refine hK _ ?_; clear hK)
        | (clear hK; clear hK; refine hK _ ?_; clear hK)
        | (clear hK; clear hK; clear hK; refine hK _ ?_; clear hK)
        | (simp only [wHb, reduceCtorEq] at hb <;> try (exfalso; omega))
        | refine wCd (fun hb => ?_) fun hb => ?_
        | simp only [go_sem, Nat.reduceLT, Nat.reduceLeDiff, Nat.reduceEqDiff, Nat.reduceAdd, Nat.reduceMul, Nat.reduceSub, reduceCtorEq, F]
        | simp (disch := omega) only [decide_eq_true_eq, if_pos, if_neg, wrap_id, le_maxLen, and_true, true_and, if_true, ite_true]
        | refine wGd (fun hb => ?_) fun hb => ?_
      all_goals first
        | (exfalso; simp_all; done)
        | (exfalso; have := hgo2 (by assumption); simp_all; done)
        | skip
      all_goals refine retO_mk [] rfl [.box [.rf 3 s0.heads.length, .rf 4 s0.descs.length], .dead, .dead] rfl (by simp [keepsL, updH, hpL]) (acc1 := _) (by simp only [go_sem, Nat.reduceLT, Nat.reduceLeDiff, Nat.reduceEqDiff, Nat.reduceAdd, Nat.reduceMul, Nat.reduceSub, reduceCtorEq, exEs, exOCs, exOC, rowsH_len, rowsD_len, hhl, hdl, t1, t2, Nat.le_refl]; try rfl) (by simp only [go_sem, Nat.reduceLT, Nat.reduceLeDiff, Nat.reduceEqDiff, Nat.reduceAdd, Nat.reduceMul, Nat.reduceSub, reduceCtorEq, vres]; rfl) (acc := _) (by simp only [go_sem, Nat.reduceLT, Nat.reduceLeDiff, Nat.reduceEqDiff, Nat.reduceAdd, Nat.reduceMul, Nat.reduceSub, reduceCtorEq, wrap, exOV, exOAs, exOA, exOC, hbn]; try rfl) (by simp) (by simp [rootOf])
end Go.Proofs.Ytchkbgekmoileaa

/- The reference's Finish. -/
namespace Go.Proofs.Ytchkbgekmoileaa
open Go Go.RowKit
set_option linter.unusedVariables false
set_option linter.unusedSimpArgs false
set_option maxRecDepth 100000
set_option maxHeartbeats 4000000
attribute [local irreducible] VWP vops vdraw contV contD CallK Guard GuardV NextL Puts Runs RetOK RetQ RetO RetQO thenQ blockQ
attribute [local irreducible] NextN

noncomputable def finOk (s : StoreD) (fs : List FrameD) (m : Int) : Bool := stackB s fs && inB m 0 2000
noncomputable def finishR (s : StoreD) (fs : List FrameD) (m : Int) : StoreD × Int × Bool :=
  if finOk s fs m = true then ((finF m.toNat s fs).1, ((finF m.toNat s fs).2.2 : Nat), decide ((finF m.toNat s fs).2.1 = [])) else (s, 0, false)
theorem stack_help {s : StoreD} {fs : List FrameD} (h : stackB s fs = true) : HelpI s fs := by
  simp only [stackB, Bool.and_eq_true, decide_eq_true_eq, List.all_eq_true] at h
  exact help_of (bP_iff.1 h.1.1) h.1.2 fun f hf => by
    have := h.2 f hf
    simp only [stB, Bool.and_eq_true] at this
    exact this.1
structure SFX where
  i : Nat
  s : StoreD
  fs : List FrameD
  junk : List FrameD
end Go.Proofs.Ytchkbgekmoileaa

/- What both Together give. -/
namespace Go.Proofs.Ytchkbgekmoileaa
open Go Go.RowKit
set_option linter.unusedVariables false
set_option linter.unusedSimpArgs false
set_option maxRecDepth 100000
set_option maxHeartbeats 4000000
attribute [local irreducible] VWP vops vdraw contV contD CallK Guard GuardV NextL Puts Runs RetOK RetQ RetO RetQO thenQ blockQ
attribute [local irreducible] NextN

/-- Two stacks are helped by turns. -/
def togF : List Bool → StoreD → List FrameD → List FrameD → StoreD × List FrameD × List FrameD
  | [], s, a, b => (s, a, b)
  | t :: ts, s, a, b => if t then togF ts (helpF s b).1 a (helpF s b).2 else togF ts (helpF s a).1 (helpF s a).2 b
noncomputable def togOk (s : StoreD) (a b : List FrameD) (ts : List Bool) : Bool := stackB s a && stackB s b && decide (ts.length ≤ 400)
noncomputable def togR (s : StoreD) (a b : List FrameD) (ts : List Bool) : StoreD × List FrameD × List FrameD := if togOk s a b ts = true then togF ts s a b else (s, a, b)
structure TogJ (s0 : StoreD) (a0 b0 : List FrameD) (ts : List Bool) (i : Nat) (s : StoreD) (a b : List FrameD) : Prop where
  ia : HelpI s a
  ib : HelpI s b
  tin : s.tiny
  le : i ≤ ts.length
  hl : s.heads.length = s0.heads.length
  dl : s.descs.length = s0.descs.length
  res : togF ts s0 a0 b0 = togF (ts.drop i) s a b
theorem togJ_true {s0 s : StoreD} {a0 b0 a b : List FrameD} {ts : List Bool} {i : Nat} (h : TogJ s0 a0 b0 ts i s a b) (ht : ts[i]? = some true) : TogJ s0 a0 b0 ts (i + 1) (helpF s b).1 a (helpF s b).2 := by
  have hk := helpF_keeps h.ib
  have hlt := (List.getElem?_eq_some_iff.1 ht).1
  refine ⟨⟨hk.inv.st, fun f hf => hk.all f (h.ia.fr f hf), h.ia.len⟩, hk.inv, helpF_tiny h.ib h.tin, hlt, by rw [hk.hl, h.hl], by rw [hk.dl, h.dl], ?_⟩
  rw [h.res, List.drop_eq_getElem_cons hlt, show ts[i] = true from by have := (List.getElem?_eq_some_iff.1 ht).2; exact this]
  rfl
theorem togJ_false {s0 s : StoreD} {a0 b0 a b : List FrameD} {ts : List Bool} {i : Nat} (h : TogJ s0 a0 b0 ts i s a b) (ht : ts[i]? = some false) : TogJ s0 a0 b0 ts (i + 1) (helpF s a).1 (helpF s a).2 b := by
  have hk := helpF_keeps h.ia
  have hlt := (List.getElem?_eq_some_iff.1 ht).1
  refine ⟨hk.inv, ⟨hk.inv.st, fun f hf => hk.all f (h.ib.fr f hf), h.ib.len⟩, helpF_tiny h.ia h.tin, hlt, by rw [hk.hl, h.hl], by rw [hk.dl, h.dl], ?_⟩
  rw [h.res, List.drop_eq_getElem_cons hlt, show ts[i] = false from by have := (List.getElem?_eq_some_iff.1 ht).2; exact this]
  rfl
theorem togJ_zero {s0 : StoreD} {a0 b0 : List FrameD} {ts : List Bool} (ha : HelpI s0 a0) (hb : HelpI s0 b0) (hs : s0.tiny) : TogJ s0 a0 b0 ts 0 s0 a0 b0 := ⟨ha, hb, hs, Nat.zero_le _, rfl, rfl, rfl⟩
structure TogX where
  i : Nat
  s : StoreD
  a : List FrameD
  b : List FrameD
  ja : List FrameD
  jb : List FrameD
theorem implTogether_ok (s0 : StoreD) (a0 b0 : List FrameD) (ts : List Bool) (hs : s0.tiny) (la : a0.length ≤ 1048576) (lb : b0.length ≤ 1048576) (lt : ts.length ≤ 1048576) (r : StoreD × List FrameD × List FrameD) (hr : togR s0 a0 b0 ts = r) :
    SatP Try.prog 13 [.agg (s0.cells 36 40 70), .fr 50 (rowsF a0), .fr 50 (rowsF b0), .fr 4 (rowsB ts)]
      (.tup [.agg [.rf 0 s0.heads.length, .rf 1 s0.descs.length], .rf 2 r.2.1.length, .rf 3 r.2.2.length]) [(36, rowsH r.1.heads), (40, rowsD 70 r.1.descs), (50, rowsF r.2.1), (50, rowsF r.2.2)] := by
  have hca := implStackOk_ok s0 a0 hs.small la
  have hcb := implStackOk_ok s0 b0 hs.small lb
  have ho := ownStore_ok s0 hs.small
  have hoa := ownFrames_ok a0 la
  have hob := ownFrames_ok b0 lb
  refine satP_of_body hT Try.func13 (by kernel_rfl) rfl (rs := [.cell 8 27, .tmp 9, .tmp 10]) rfl (n := 55) rfl (by simp) rfl (by simp [rowsH_pur, rowsD_pur, rowsF_pur]) fun E hE => ?_
  unfold St.init
  unfold StoreD.cells at *
  rcases (Bool.eq_false_or_eq_true (togOk s0 a0 b0 ts)).symm with hp | hp
  · rw [togR, if_neg (by rw [hp]; exact fun h => nomatch h)] at hr
    subst hr
    have hgt : stackB s0 a0 = true → stackB s0 b0 = true → (400 : Int) < (ts.length : Int) := fun h1 h2 => by
      have := hp
      simp [togOk, h1, h2] at this
      omega
    generalize stackB s0 a0 = A at *
    generalize stackB s0 b0 = B at *
    have F := And.intro @rowsH_len (And.intro @rowsD_len (And.intro @rowsF_len (And.intro @rowsB_len (And.intro @rowsH_take @rowsD_take))))
    repeat' first
      | refine wSq fun _ hK => ?_
      | refine wRg ?_
      | refine wDr ?_
      | refine VWP_block ?_
      | refine VWP_skip ?_
      | refine VWP_exit ?_
      | refine VWP_ret ?_
      | (refine hK _ ?_; clear hK)
      | (clear hK; refine hK _ ?_; clear hK)
      | (clear hK; clear hK; refine hK _ ?_; clear hK)
      | (clear hK; clear hK; clear hK; refine hK _ ?_; clear hK)
      | (simp only [wHb, reduceCtorEq] at hb <;> try (exfalso; omega))
      | refine wCd (fun hb => ?_) fun hb => ?_
      | refine wCa (c := by first | exact hca | exact hcb | exact ho | exact hoa | exact hob) (k := ?_)
      | simp only [go_sem, Nat.reduceLT, Nat.reduceLeDiff, Nat.reduceEqDiff, Nat.reduceAdd, Nat.reduceMul, Nat.reduceSub, reduceCtorEq, F]
      | simp (disch := omega) only [decide_eq_true_eq, if_pos, if_neg, wrap_id, le_maxLen, and_true, true_and, if_true, ite_true]
      | refine wGd (fun hb => ?_) fun hb => ?_
    all_goals first
      | (exfalso; simp_all; done)
      | (exfalso; have := hgt (by simp_all) (by simp_all); simp_all; omega)
      | skip
    all_goals refine ret_mk (vs := _) (acc := _) (by simp only [go_sem, Nat.reduceLT, Nat.reduceLeDiff, Nat.reduceEqDiff, Nat.reduceAdd, Nat.reduceMul, Nat.reduceSub, reduceCtorEq, vres]; rfl) (by simp only [go_sem, Nat.reduceLT, Nat.reduceLeDiff, Nat.reduceEqDiff, Nat.reduceAdd, Nat.reduceMul, Nat.reduceSub, reduceCtorEq, wrap, exV, exAs, exA, exCs, exC, rowsH_len, rowsH_take, rowsD_len, rowsD_take, rowsF_len, rowsF_take, Nat.le_refl]; rfl) (by simp) (by simp) (by simp [rowsH_pur, rowsD_pur, rowsF_pur])
  · rw [togR, if_pos hp] at hr
    have hp2 : (stackB s0 a0 = true ∧ stackB s0 b0 = true) ∧ ts.length ≤ 400 := by simpa [togOk] using hp
    obtain ⟨⟨p1, p2⟩, p3⟩ := hp2
    rw [p1] at hca
    rw [p2] at hcb
    have hn4 : ¬ (400 : Int) < (ts.length : Int) := by omega
    have F := And.intro @rowsH_len (And.intro @rowsD_len (And.intro @rowsF_len (And.intro @rowsB_len (And.intro @rowsH_take (And.intro @rowsD_take hn4)))))
    repeat' first
      | refine wSq fun _ hK => ?_
      | refine wRg ?_
      | refine wDr ?_
      | refine VWP_block ?_
      | refine VWP_skip ?_
      | refine VWP_exit ?_
      | refine VWP_ret ?_
      | (refine hK _ ?_; clear hK)
      | (clear hK; refine hK _ ?_; clear hK)
      | (clear hK; clear hK; refine hK _ ?_; clear hK)
      | (clear hK; clear hK; clear hK; refine hK _ ?_; clear hK)
      | (simp only [wHb, reduceCtorEq] at hb <;> try (exfalso; omega))
      | refine wCd (fun hb => ?_) fun hb => ?_
      | refine wCa (c := by first | exact hca | exact hcb | exact ho | exact hoa | exact hob) (k := ?_)
      | simp only [go_sem, Nat.reduceLT, Nat.reduceLeDiff, Nat.reduceEqDiff, Nat.reduceAdd, Nat.reduceMul, Nat.reduceSub, reduceCtorEq, F]
      | simp (disch := omega) only [decide_eq_true_eq, if_pos, if_neg, wrap_id, le_maxLen, and_true, true_and, if_true, ite_true]
      | refine wGd (fun hb => ?_) fun hb => ?_
    refine VWP_loopN hE (X := TogX) (fun x => [(8, .bp 1 0), (11, .bp 6 0), (12, .rf 4 x.a.length), (13, .rf 5 x.b.length), (40, .fr 4 (rowsB ts)), (41, .int .i64 ts.length), (42, .int .i64 x.i)]) (fun x => [(1, .box [.nl 36, .nl 40]), (6, .box [.rf 2 s0.heads.length, .rf 3 s0.descs.length]), (2, .root 36 (rowsH x.s.heads)), (3, .root 40 (rowsD 70 x.s.descs)), (4, .root 50 (rowsF (x.a ++ x.ja))), (5, .root 50 (rowsF (x.b ++ x.jb)))])
      (fun x => ts.length - x.i) (fun x => TogJ s0 a0 b0 ts x.i x.s x.a x.b) [0, 1, 2, 3, 4, 5, 6] ⟨0, s0, a0, b0, [], []⟩ (togJ_zero (stack_help p1) (stack_help p2) hs) (by decide) (by decide) (by simp [updV, renV, renA, renC]) (by simp [updH, renH_at, renE, renC, rowsH_pur, rowsD_pur, rowsF_pur]) ?_
    rintro ⟨i, s, a, b, ja, jb⟩ hJ
    have hia : HelpI s a := hJ.ia
    have hib : HelpI s b := hJ.ib
    have htin : s.tiny := hJ.tin
    have hle : i ≤ ts.length := hJ.le
    have hhl : s.heads.length = s0.heads.length := hJ.hl
    have hdl : s.descs.length = s0.descs.length := hJ.dl
    have hres : togF ts s0 a0 b0 = togF (ts.drop i) s a b := hJ.res
    have hla := hia.len
    have hlb := hib.len
    have hw := wrap_id (x := (i : Int) + 1) (by omega)
    have hja : a.length ≤ (a ++ ja).length := by simp
    have hjb : b.length ≤ (b ++ jb).length := by simp
    have hta : (rowsF (a ++ ja)).take a.length = rowsF a := by rw [show rowsF (a ++ ja) = rowsF a ++ rowsF ja by simp [rowsF], List.take_left' (rowsF_len _)]
    have htb : (rowsF (b ++ jb)).take b.length = rowsF b := by rw [show rowsF (b ++ jb) = rowsF b ++ rowsF jb by simp [rowsF], List.take_left' (rowsF_len _)]
    rcases Nat.lt_or_ge i ts.length with hlt | hge
    · obtain ⟨t, ht⟩ : ∃ t, ts[i]? = some t := ⟨_, List.getElem?_eq_getElem hlt⟩
      have hre := rowsB_at ht
      have hlt2 : (i : Int) < (ts.length : Int) := by omega
      cases t with
      | true =>
        have hJ2 := togJ_true hJ ht
        simp only at hJ2
        obtain ⟨⟨s1, b1⟩, h1⟩ : ∃ q, helpF s b = q := ⟨_, rfl⟩
        rw [h1] at hJ2
        rcases (Bool.eq_false_or_eq_true (stuckB s b)) with hsk | hsk
        · have hf := helpStuck_ok s b hib htin.small hsk
          rw [stuck_help hsk] at h1
          cases h1
          rw [hhl, hdl] at hf
          have F := And.intro @rowsB_len (And.intro @rowsF_len (And.intro @rowsF_pur (And.intro @rowsH_len (And.intro @rowsD_len (And.intro @rowsH_pur (And.intro @rowsD_pur (And.intro hlt (And.intro hlt2 (And.intro hre (And.intro hja (And.intro hjb (And.intro hta (And.intro htb @Nat.le_refl)))))))))))))
          repeat' first
            | refine wSq fun _ hK => ?_
            | refine wRg ?_
            | refine wDr ?_
            | refine VWP_block ?_
            | refine VWP_skip ?_
            | refine VWP_exit ?_
            | refine VWP_ret ?_
            | (refine hK _ ?_; clear hK)
            | (clear hK; refine hK _ ?_; clear hK)
            | (clear hK; clear hK; refine hK _ ?_; clear hK)
            | (clear hK; clear hK; clear hK; refine hK _ ?_; clear hK)
            | (simp only [wHb, reduceCtorEq] at hb <;> try (exfalso; omega))
            | refine wCd (fun hb => ?_) fun hb => ?_
            | refine wOw [6, 2, 3] (c := by exact hf) (k := ?_)
            | simp only [go_sem, Nat.reduceLT, Nat.reduceLeDiff, Nat.reduceEqDiff, Nat.reduceAdd, Nat.reduceMul, Nat.reduceSub, reduceCtorEq, F]
            | simp (disch := omega) only [decide_eq_true_eq, if_pos, if_neg, wrap_id, le_maxLen, and_true, true_and, if_true, ite_true]
            | refine wGd (fun hb => ?_) fun hb => ?_
          all_goals exact nextN [] rfl [0, 1, 2, 3, 4, 7, 6] ⟨i + 1, s, a, b, ja, []⟩ rfl (by decide) (by decide) hJ2 (by simp only; omega) (by simp [updV, tmL, renV, renA, renC, hw]) (by simp [updH, hpL, renH_at, renE, renC, rowsH_pur, rowsD_pur, rowsF_pur])
        · have hf := helpMoves_ok s b hib htin.small hsk _ h1
          rw [hhl, hdl] at hf
          have F := And.intro @rowsB_len (And.intro @rowsF_len (And.intro @rowsF_pur (And.intro @rowsH_len (And.intro @rowsD_len (And.intro @rowsH_pur (And.intro @rowsD_pur (And.intro hlt (And.intro hlt2 (And.intro hre (And.intro hja (And.intro hjb (And.intro hta (And.intro htb @Nat.le_refl)))))))))))))
          repeat' first
            | refine wSq fun _ hK => ?_
            | refine wRg ?_
            | refine wDr ?_
            | refine VWP_block ?_
            | refine VWP_skip ?_
            | refine VWP_exit ?_
            | refine VWP_ret ?_
            | (refine hK _ ?_; clear hK)
            | (clear hK; refine hK _ ?_; clear hK)
            | (clear hK; clear hK; refine hK _ ?_; clear hK)
            | (clear hK; clear hK; clear hK; refine hK _ ?_; clear hK)
            | (simp only [wHb, reduceCtorEq] at hb <;> try (exfalso; omega))
            | refine wCd (fun hb => ?_) fun hb => ?_
            | refine wOw [6, 2, 3] (c := by exact hf) (k := ?_)
            | simp only [go_sem, Nat.reduceLT, Nat.reduceLeDiff, Nat.reduceEqDiff, Nat.reduceAdd, Nat.reduceMul, Nat.reduceSub, reduceCtorEq, F]
            | simp (disch := omega) only [decide_eq_true_eq, if_pos, if_neg, wrap_id, le_maxLen, and_true, true_and, if_true, ite_true]
            | refine wGd (fun hb => ?_) fun hb => ?_
          all_goals exact nextN [] rfl [0, 1, 7, 8, 4, 9, 6] ⟨i + 1, s1, a, b1, ja, []⟩ rfl (by decide) (by decide) hJ2 (by simp only; omega) (by simp [updV, tmL, renV, renA, renC, hw]) (by simp [updH, hpL, renH_at, renE, renC, rowsH_pur, rowsD_pur, rowsF_pur])
      | false =>
        have hJ2 := togJ_false hJ ht
        simp only at hJ2
        obtain ⟨⟨s1, a1⟩, h1⟩ : ∃ q, helpF s a = q := ⟨_, rfl⟩
        rw [h1] at hJ2
        rcases (Bool.eq_false_or_eq_true (stuckB s a)) with hsk | hsk
        · have hf := helpStuck_ok s a hia htin.small hsk
          rw [stuck_help hsk] at h1
          cases h1
          rw [hhl, hdl] at hf
          have F := And.intro @rowsB_len (And.intro @rowsF_len (And.intro @rowsF_pur (And.intro @rowsH_len (And.intro @rowsD_len (And.intro @rowsH_pur (And.intro @rowsD_pur (And.intro hlt (And.intro hlt2 (And.intro hre (And.intro hja (And.intro hjb (And.intro hta (And.intro htb @Nat.le_refl)))))))))))))
          repeat' first
            | refine wSq fun _ hK => ?_
            | refine wRg ?_
            | refine wDr ?_
            | refine VWP_block ?_
            | refine VWP_skip ?_
            | refine VWP_exit ?_
            | refine VWP_ret ?_
            | (refine hK _ ?_; clear hK)
            | (clear hK; refine hK _ ?_; clear hK)
            | (clear hK; clear hK; refine hK _ ?_; clear hK)
            | (clear hK; clear hK; clear hK; refine hK _ ?_; clear hK)
            | (simp only [wHb, reduceCtorEq] at hb <;> try (exfalso; omega))
            | refine wCd (fun hb => ?_) fun hb => ?_
            | refine wOw [6, 2, 3] (c := by exact hf) (k := ?_)
            | simp only [go_sem, Nat.reduceLT, Nat.reduceLeDiff, Nat.reduceEqDiff, Nat.reduceAdd, Nat.reduceMul, Nat.reduceSub, reduceCtorEq, F]
            | simp (disch := omega) only [decide_eq_true_eq, if_pos, if_neg, wrap_id, le_maxLen, and_true, true_and, if_true, ite_true]
            | refine wGd (fun hb => ?_) fun hb => ?_
          all_goals exact nextN [] rfl [0, 1, 2, 3, 7, 5, 6] ⟨i + 1, s, a, b, [], jb⟩ rfl (by decide) (by decide) hJ2 (by simp only; omega) (by simp [updV, tmL, renV, renA, renC, hw]) (by simp [updH, hpL, renH_at, renE, renC, rowsH_pur, rowsD_pur, rowsF_pur])
        · have hf := helpMoves_ok s a hia htin.small hsk _ h1
          rw [hhl, hdl] at hf
          have F := And.intro @rowsB_len (And.intro @rowsF_len (And.intro @rowsF_pur (And.intro @rowsH_len (And.intro @rowsD_len (And.intro @rowsH_pur (And.intro @rowsD_pur (And.intro hlt (And.intro hlt2 (And.intro hre (And.intro hja (And.intro hjb (And.intro hta (And.intro htb @Nat.le_refl)))))))))))))
          repeat' first
            | refine wSq fun _ hK => ?_
            | refine wRg ?_
            | refine wDr ?_
            | refine VWP_block ?_
            | refine VWP_skip ?_
            | refine VWP_exit ?_
            | refine VWP_ret ?_
            | (refine hK _ ?_; clear hK)
            | (clear hK; refine hK _ ?_; clear hK)
            | (clear hK; clear hK; refine hK _ ?_; clear hK)
            | (clear hK; clear hK; clear hK; refine hK _ ?_; clear hK)
            | (simp only [wHb, reduceCtorEq] at hb <;> try (exfalso; omega))
            | refine wCd (fun hb => ?_) fun hb => ?_
            | refine wOw [6, 2, 3] (c := by exact hf) (k := ?_)
            | simp only [go_sem, Nat.reduceLT, Nat.reduceLeDiff, Nat.reduceEqDiff, Nat.reduceAdd, Nat.reduceMul, Nat.reduceSub, reduceCtorEq, F]
            | simp (disch := omega) only [decide_eq_true_eq, if_pos, if_neg, wrap_id, le_maxLen, and_true, true_and, if_true, ite_true]
            | refine wGd (fun hb => ?_) fun hb => ?_
          all_goals exact nextN [] rfl [0, 1, 7, 8, 9, 5, 6] ⟨i + 1, s1, a1, b, [], jb⟩ rfl (by decide) (by decide) hJ2 (by simp only; omega) (by simp [updV, tmL, renV, renA, renC, hw]) (by simp [updH, hpL, renH_at, renE, renC, rowsH_pur, rowsD_pur, rowsF_pur])
    · obtain rfl : i = ts.length := by omega
      have hge2 : ¬ (ts.length : Int) < (ts.length : Int) := by omega
      rw [hres, List.drop_eq_nil_of_le (Nat.le_refl _)] at hr
      have hr2 : (s, a, b) = r := hr
      subst hr2
      have t1 := rowsH_take s.heads
      have t2 := rowsD_take 70 s.descs
      rw [hhl] at t1
      rw [hdl] at t2
      have F := And.intro @rowsB_len hge2
      repeat' first
        | refine wSq fun _ hK => ?_
        | refine wRg ?_
        | refine wDr ?_
        | refine VWP_block ?_
        | refine VWP_skip ?_
        | refine VWP_exit ?_
        | refine VWP_ret ?_
        | (refine hK _ ?_; clear hK)
        | (clear hK; refine hK _ ?_; clear hK)
        | (clear hK; clear hK; refine hK _ ?_; clear hK)
        | (clear hK; clear hK; clear hK; refine hK _ ?_; clear hK)
        | (simp only [wHb, reduceCtorEq] at hb <;> try (exfalso; omega))
        | refine wCd (fun hb => ?_) fun hb => ?_
        | simp only [go_sem, Nat.reduceLT, Nat.reduceLeDiff, Nat.reduceEqDiff, Nat.reduceAdd, Nat.reduceMul, Nat.reduceSub, reduceCtorEq, F]
        | simp (disch := omega) only [decide_eq_true_eq, if_pos, if_neg, wrap_id, le_maxLen, and_true, true_and, if_true, ite_true]
        | refine wGd (fun hb => ?_) fun hb => ?_
      refine ret_mk (vs := _) (acc := _) (by simp only [go_sem, Nat.reduceLT, Nat.reduceLeDiff, Nat.reduceEqDiff, Nat.reduceAdd, Nat.reduceMul, Nat.reduceSub, reduceCtorEq, vres]; rfl) (by simp only [go_sem, Nat.reduceLT, Nat.reduceLeDiff, Nat.reduceEqDiff, Nat.reduceAdd, Nat.reduceMul, Nat.reduceSub, reduceCtorEq, wrap, exV, exAs, exA, exCs, exC, rowsH_len, rowsD_len, hhl, hdl, t1, t2, rowsF_len, hja, hjb, hta, htb, Nat.le_refl]; rfl) (by simp) (by simp) (by simp [rowsH_pur, rowsD_pur, rowsF_pur])
end Go.Proofs.Ytchkbgekmoileaa

/- Two who help one descriptor come to the end that one alone comes to (plain). -/
namespace Go.Proofs.Ytchkbgekmoileaa
open Go Go.RowKit
set_option linter.unusedVariables false
set_option linter.unusedSimpArgs false
set_option maxRecDepth 100000
set_option maxHeartbeats 4000000
attribute [local irreducible] VWP vops vdraw contV contD CallK Guard GuardV NextL Puts Runs RetOK RetQ RetO RetQO thenQ blockQ

theorem t_end {n : Nat} {o0 : Int} {es : List EntS} {H0 : List HeadD} {s : StoreD} {st : Int} (h : TInv n o0 es H0 s st [] []) : (st = 1 ∧ GoodE es H0 ∨ st = 2 ∧ ¬ GoodE es H0) ∧ ∀ (o : Nat) (x : HeadD), s.heads[o]? = some x → x.desc = -1 := by
  have hS := h.sp
  have hfd := hS.2.2.2.1 _ (List.mem_of_getElem? h.dn)
  have hst3 : 0 ≤ st ∧ st ≤ 2 := by have := hfd.1.2.2.2.1; simp [inB] at this; exact this
  have h0 := h.dec rfl rfl
  refine ⟨?_, fun o x hx => ?_⟩
  · rcases Int.lt_or_le st 2 with c | c
    · exact .inl ⟨by omega, h.s1 (by omega)⟩
    · exact .inr ⟨by omega, h.s2 (by omega)⟩
  · obtain ⟨x0, hx0⟩ : ∃ x0, H0[o]? = some x0 := ⟨_, List.getElem?_eq_getElem (by rw [← h.hl]; exact (List.getElem?_eq_some_iff.1 hx).1)⟩
    rcases h.hd o x x0 hx hx0 with ⟨_, _, c | ⟨c, _⟩, _⟩ | ⟨_, c, _⟩
    · exact c
    · obtain ⟨i, e, p1, p2⟩ := head_in hS hx c h.dn
      rcases h.cov i e p1 ⟨x, by rw [← hx]; congr 1; omega, c⟩ with ⟨f, q, _⟩ | ⟨f, q, _⟩ <;> simp at q
    · exact c
/-- However one comes to the end, the end is the same. -/
theorem t_same {n : Nat} {o0 : Int} {es : List EntS} {H0 : List HeadD} {s s' : StoreD} {st st' : Int} (h : TInv n o0 es H0 s st [] []) (h' : TInv n o0 es H0 s' st' [] []) : st = st' ∧ s.heads = s'.heads := by
  obtain ⟨a1, a2⟩ := t_end h
  obtain ⟨b1, b2⟩ := t_end h'
  have hst : st = st' := by
    rcases a1 with ⟨a, ag⟩ | ⟨a, ag⟩ <;> rcases b1 with ⟨b, bg⟩ | ⟨b, bg⟩
    · omega
    · exact absurd ag bg
    · exact absurd bg ag
    · omega
  subst hst
  refine ⟨rfl, List.ext_getElem? fun o => ?_⟩
  rcases Nat.lt_or_ge o H0.length with c | c
  · obtain ⟨x, hx⟩ : ∃ x, s.heads[o]? = some x := ⟨_, List.getElem?_eq_getElem (by rw [h.hl]; exact c)⟩
    obtain ⟨y, hy⟩ : ∃ y, s'.heads[o]? = some y := ⟨_, List.getElem?_eq_getElem (by rw [h'.hl]; exact c)⟩
    obtain ⟨x0, hx0⟩ : ∃ x0, H0[o]? = some x0 := ⟨_, List.getElem?_eq_getElem c⟩
    have hfd := h.sp.2.2.2.1 _ (List.mem_of_getElem? h.dn)
    have same : ∀ e e', e ∈ es → e' ∈ es → e.object = o → e'.object = o → e = e' := fun e e' he he' p q => by
      obtain ⟨i, hi⟩ := List.getElem?_of_mem he
      obtain ⟨j, hj⟩ := List.getElem?_of_mem he'
      have := obj_inj hfd.1 (i := i) (j := j) hi hj (by omega)
      subst this
      rw [hi] at hj
      exact Option.some.inj hj
    rw [hx, hy]
    have e1 := a2 o x hx
    have e2 := b2 o y hy
    have : x.value = y.value ∧ x.version = y.version := by
      rcases h.hd o x x0 hx hx0 with ⟨p1, p2, _, p4⟩ | ⟨p1, _, e, p3, p4, p5, p6, p7⟩ <;> rcases h'.hd o y x0 hy hx0 with ⟨q1, q2, _, q4⟩ | ⟨q1, _, e', q3, q4', q5, q6, q7⟩
      · omega
      · have := p4 q1 e' q3 q4' q5; omega
      · have := q4 p1 e p3 p4 p5; omega
      · have := same e e' p3 q3 p4 q4'
        subst this
        omega
    cases x; cases y
    simp only at e1 e2 this ⊢
    simp [this.1, this.2, e1, e2]
  · rw [List.getElem?_eq_none (by rw [h.hl]; exact c), List.getElem?_eq_none (by rw [h'.hl]; exact c)]

theorem fin_t : ∀ (m : Nat) {n : Nat} {o0 : Int} {es : List EntS} {H0 : List HeadD} {s : StoreD} {st : Int} {x y : List FrameD}, TInv n o0 es H0 s st x y → (∀ f, x = [f] → cost s f ≤ m) → ∃ st', TInv n o0 es H0 (finF m s x).1 st' [] y ∧ (finF m s x).2.1 = [] ∧ (finF m s x).1.descs.length = s.descs.length
  | 0, n, o0, es, H0, s, st, x, y, h, hc => by
    rcases h.fx with rfl | ⟨f, rfl, hf, hfn, h5, _⟩
    · exact ⟨st, h, rfl, rfl⟩
    · have := (dstep_cost h.sp hf h5).1
      have := hc f rfl
      omega
  | m + 1, n, o0, es, H0, s, st, x, y, h, hc => by
    rw [finF]
    split
    · rename_i c
      subst c
      exact ⟨st, h, rfl, rfl⟩
    · rename_i c
      obtain ⟨st1, h1, h2, h3⟩ := tstep h
      obtain ⟨st2, k1, k2, k3⟩ := fin_t m h1 fun f' hf' => by
        rcases h.fx with rfl | ⟨f, rfl, _⟩
        · exact absurd rfl c
        · rcases h3 f rfl with q | ⟨f2, q1, q2⟩
          · rw [q] at hf'; simp at hf'
          · rw [q1] at hf'
            have hf' := List.head_eq_of_cons_eq hf'
            subst hf'
            have := hc f rfl
            omega
      exact ⟨st2, k1, k2, by rw [k3, h2]⟩
theorem cost_le {s : StoreD} (hS : StoreP s) (f : FrameD) (h : frmB s f = true) : cost s f ≤ 14 := by
  obtain ⟨k, d, j, e, o, hh, ha⟩ := at_ex hS h
  rw [cost_at ha.fk ha.dk]
  have := (hS.2.2.2.1 d (List.mem_of_getElem? ha.dk)).1.2.2.2.2.2
  split
  · omega
  split
  · omega
  split <;> omega
theorem tog_t : ∀ (ts : List Bool) {n : Nat} {o0 : Int} {es : List EntS} {H0 : List HeadD} {s : StoreD} {st : Int} {x y : List FrameD}, TInv n o0 es H0 s st x y → ∃ st', TInv n o0 es H0 (togF ts s x y).1 st' (togF ts s x y).2.1 (togF ts s x y).2.2 ∧ (togF ts s x y).1.descs.length = s.descs.length
  | [], n, o0, es, H0, s, st, x, y, h => ⟨st, h, rfl⟩
  | t :: ts, n, o0, es, H0, s, st, x, y, h => by
    unfold togF
    cases t with
    | true =>
      obtain ⟨st1, h1, h2, _⟩ := tstep h.symm
      obtain ⟨st2, k1, k2⟩ := tog_t ts h1.symm
      exact ⟨st2, by simpa using k1, by simpa using k2.trans h2⟩
    | false =>
      obtain ⟨st1, h1, h2, _⟩ := tstep h
      obtain ⟨st2, k1, k2⟩ := tog_t ts h1
      exact ⟨st2, by simpa using k1, by simpa using k2.trans h2⟩
/-- The beginning: a descriptor that is new in a store in which none lies over anything. -/
theorem t_new {s : StoreD} {d : DescS} (hS : StoreP s) (hn : ∀ (o : Nat) (x : HeadD), s.heads[o]? = some x → x.desc = -1) (hd : FitsP s.heads.length d) (hst : d.status = 0) (hD : s.descs.length < 60) :
    StoreP ⟨s.heads, s.descs ++ [d]⟩ ∧ TInv s.descs.length d.owner d.entries s.heads ⟨s.heads, s.descs ++ [d]⟩ 0 [⟨(s.descs.length : Nat), 0, 0⟩] [⟨(s.descs.length : Nat), 0, 0⟩] ∧ TInv s.descs.length d.owner d.entries s.heads ⟨s.heads, s.descs ++ [d]⟩ 0 [⟨(s.descs.length : Nat), 0, 0⟩] [] := by
  have hde : d = ⟨d.owner, 0, d.entries⟩ := by cases d; simp_all
  have hS' : StoreP ⟨s.heads, s.descs ++ [d]⟩ := by
    obtain ⟨a, b, c, dd, e⟩ := id hS
    refine ⟨a, b, by simp; omega, fun x hx => ?_, fun o x hx => ?_⟩
    · simp only [List.mem_append, List.mem_cons, List.not_mem_nil, or_false] at hx
      rcases hx with hx | rfl
      · exact dd x hx
      · exact hd
    · obtain ⟨v1, v2, v3, _⟩ := head_desc hS hx
      exact headB_of v1 ⟨v2, v3⟩ (.inl (hn o x hx))
  have hat : (s.descs ++ [d])[s.descs.length]? = some d := by simp
  have hf : frmB ⟨s.heads, s.descs ++ [d]⟩ ⟨(s.descs.length : Nat), 0, 0⟩ = true := frm_zero (s := ⟨s.heads, s.descs ++ [d]⟩) hat (by omega) (by omega) hd.1.2.2.2.2.1
  have hx : StkT s.descs.length d.entries s.heads ⟨s.heads, s.descs ++ [d]⟩ 0 [⟨(s.descs.length : Nat), 0, 0⟩] := .inr ⟨_, rfl, hf, rfl, by simp, fun q => by simp at q, fun q => by simp at q, fun q => by simp at q, fun q => by simp at q⟩
  have hlie : ∀ o, ¬ LiesOn ⟨s.heads, s.descs ++ [d]⟩ s.descs.length o := fun o ⟨x, hx, hxd⟩ => by
    have := hn o x hx
    omega
  have base : ∀ y, StkT s.descs.length d.entries s.heads ⟨s.heads, s.descs ++ [d]⟩ 0 y → TInv s.descs.length d.owner d.entries s.heads ⟨s.heads, s.descs ++ [d]⟩ 0 [⟨(s.descs.length : Nat), 0, 0⟩] y := fun y hy =>
    ⟨hS', by rw [hat]; exact congrArg some hde, fun h => by omega, fun h => by omega, rfl, fun o x hx => by have := head_desc hS hx; omega, fun o h h0 h1 h2 => by
      have hq := hn o h0 h2
      rw [h2] at h1
      have h1 := Option.some.inj h1
      subst h1
      exact .inl ⟨rfl, rfl, .inl hq, fun h => by omega⟩, hx, hy, fun h => by simp at h, fun i e _ hl => absurd hl (hlie _)⟩
  exact ⟨hS', base _ hx, base _ (.inl rfl)⟩
end Go.Proofs.Ytchkbgekmoileaa

/- What the law FnTogether announces (plain). -/
namespace Go.Proofs.Ytchkbgekmoileaa
open Go Go.RowKit
set_option linter.unusedVariables false
set_option linter.unusedSimpArgs false
set_option maxRecDepth 100000
set_option maxHeartbeats 4000000
attribute [local irreducible] VWP vops vdraw contV contD CallK Guard GuardV NextL Puts Runs RetOK RetQ RetO RetQO thenQ blockQ

theorem open_one {e : EntS} (h : e.ok = true) : OpenP [e] := by
  refine ⟨fun i x hx => ?_, by simp⟩
  match i with
  | 0 => simp at hx; subst hx; exact ⟨h, fun k f hk => by omega⟩
  | i + 1 => simp at hx
theorem open_two {e f : EntS} (he : e.ok = true) (hf : f.ok = true) (hne : e.object ≠ f.object) : OpenP [e, f] := by
  refine ⟨fun i x hx => ?_, by simp⟩
  match i with
  | 0 => simp at hx; subst hx; exact ⟨he, fun k f hk => by omega⟩
  | 1 =>
    simp at hx; subst hx
    refine ⟨hf, fun k y hk hy => ?_⟩
    obtain rfl : k = 0 := by omega
    simp at hy; subst hy
    exact hne
  | i + 2 => simp at hx
theorem byObj_iff {es : List EntS} (hO : OpenP es) (e : EntS) : e ∈ byObj es 8 ↔ e ∈ es := by
  have h1 := (ins_srt es es.length (Nat.le_refl _)).1
  rw [List.take_length, List.drop_length, List.append_nil] at h1
  rw [← sorted_eq hO, h1, List.mem_reverse, srt_mem]
theorem make_fits {n : Nat} {es : List EntS} (hO : OpenP es) (h0 : 1 ≤ es.length) (hn : ∀ e ∈ es, e.object < n) {o : Int} (ho : inB o 0 3 = true) :
    makeL o es = (⟨o, 0, byObj es 8⟩, true) ∧ FitsP n ⟨o, 0, byObj es 8⟩ := by
  have hlen : (byObj es 8).length = es.length := by rw [← sorted_eq hO, insE_len]
  have hasc := byObj_asc es 8
  rw [List.pairwise_iff_getElem] at hasc
  have hok : ∀ e ∈ es, e.ok = true := fun e he => by
    obtain ⟨i, hi⟩ := List.getElem?_of_mem he
    exact (hO.1 i e hi).1
  refine ⟨?_, ⟨fun i e f he hf => ?_, fun i e he => hok e ((byObj_iff hO e).1 (List.mem_of_getElem? he)), ho, by simp [inB], by simp only; omega, by have := hO.2; simp only; omega⟩, fun e he => hn e ((byObj_iff hO e).1 (List.mem_of_getElem? he))⟩
  · have hz : (es.length == 0) = false := by rw [beq_eq_false_iff_ne]; omega
    unfold makeL makeOk
    rw [ho, bP_iff.2 hO, hz]
    rfl
  · simp only at he hf
    obtain ⟨hi, rfl⟩ := List.getElem?_eq_some_iff.1 he
    obtain ⟨hj, rfl⟩ := List.getElem?_eq_some_iff.1 hf
    exact hasc i (i + 1) hi hj (by omega)
theorem good_one {e : EntS} {H0 : List HeadD} {o : Nat} {h : HeadD} (ho : e.object = o) (hh : H0[o]? = some h) (L : List EntS) : GoodE (e :: L) H0 ↔ h.version = e.version ∧ GoodE L H0 := by
  have h1 : e.object.toNat = o := by omega
  refine ⟨fun hg => ⟨hg e (List.mem_cons_self ..) h (by rw [h1]; exact hh), fun x hx => hg x (List.mem_cons_of_mem _ hx)⟩, fun ⟨ha, hg⟩ x hx y hy => ?_⟩
  rcases List.mem_cons.1 hx with rfl | hx
  · rw [h1, hh] at hy
    cases hy
    exact ha
  · exact hg x hx y hy
theorem good_nil {H0 : List HeadD} : GoodE [] H0 := fun e he => by simp at he
theorem add_new {es : List EntS} {e : EntS} (hO : OpenP es) (h2 : e.ok = true) (hn : ∀ x ∈ es, x.object ≠ e.object) (h : es.length < 6) : addReadL es e = (es ++ [e], 0) := by
  refine add_done (bP_iff.2 hO) h2 ?_ (by omega)
  unfold openedI
  rw [if_pos (bP_iff.2 hO)]
  rcases placeE_cases es e.object with ⟨hp, _⟩ | ⟨k, x, hp, hx, hxo, _⟩
  · omega
  · exact absurd hxo (hn x (List.mem_of_getElem? hx))
theorem told_list {s : StoreD} (hS : StoreP s) {o p : Nat} {h q : HeadD} (ho : s.heads[o]? = some h) (hp : s.heads[p]? = some q) (hne : p ≠ o) {a b : Int} (a0 : 0 ≤ a) (a1 : a ≤ 255) (hb : b = 0 ∨ b = 1) :
    addReadL [] ⟨o, h.version, h.value, h.value, false⟩ = ([⟨o, h.version, h.value, h.value, false⟩], 0) ∧ setNewL [⟨o, h.version, h.value, h.value, false⟩] o a = ([⟨o, h.version, h.value, a, true⟩], true) ∧
    ∃ L r, addReadL [⟨o, h.version, h.value, a, true⟩] ⟨p, q.version + b, q.value, q.value, false⟩ = (L, r) ∧ 1 ≤ L.length ∧ L.length ≤ 2 ∧ makeL 0 L = (⟨0, 0, byObj L 8⟩, true) ∧ FitsP s.heads.length ⟨0, 0, byObj L 8⟩ ∧ (GoodE (byObj L 8) s.heads ↔ (b = 0 ∨ L.length = 1)) := by
  have hol := (List.getElem?_eq_some_iff.1 ho).1
  have hpl := (List.getElem?_eq_some_iff.1 hp).1
  have h8 := hS.2.1
  obtain ⟨v1, v2, v3, _⟩ := head_desc hS ho
  obtain ⟨w1, w2, w3, _⟩ := head_desc hS hp
  have k1 : EntS.ok ⟨o, h.version, h.value, h.value, false⟩ = true := by simp [EntS.ok, inB, *] at *; omega
  have k2 : EntS.ok ⟨o, h.version, h.value, a, true⟩ = true := by simp [EntS.ok, inB, *] at *; omega
  refine ⟨add_new ⟨fun i e he => by simp at he, by simp⟩ k1 (fun x hx => by simp at hx) (by simp), ?_, ?_⟩
  · have hv : inB a (-1000000000) 1000000000 = true := by simp [inB]; omega
    simp [setNewL, isAt, bP_iff.2 (open_one k1), hv]
  have hfin : ∀ L : List EntS, OpenP L → 1 ≤ L.length → (∀ e ∈ L, e.object < s.heads.length) → (GoodE L s.heads ↔ (b = 0 ∨ L.length = 1)) → makeL 0 L = (⟨0, 0, byObj L 8⟩, true) ∧ FitsP s.heads.length ⟨0, 0, byObj L 8⟩ ∧ (GoodE (byObj L 8) s.heads ↔ (b = 0 ∨ L.length = 1)) := fun L hO hl hn hg => by
    obtain ⟨m1, m2⟩ := make_fits hO hl hn (o := 0) (by simp [inB])
    refine ⟨m1, m2, Iff.trans ⟨fun h e he => h e ((byObj_iff hO e).2 he), fun h e he => h e ((byObj_iff hO e).1 he)⟩ hg⟩
  by_cases hc : q.version + b ≤ 1000000
  · have k3 : EntS.ok ⟨p, q.version + b, q.value, q.value, false⟩ = true := by simp [EntS.ok, inB, *] at *; omega
    refine ⟨_, _, add_new (open_one k2) k3 (fun x hx => by simp at hx; subst hx; simp; omega) (by simp), by simp, by simp, hfin _ ?_ (by simp) ?_ ?_⟩
    · exact open_two k2 k3 (by simp; omega)
    · intro e he
      simp at he
      rcases he with rfl | rfl
      · simp; omega
      · simp; omega
    · simp only [List.cons_append, List.nil_append]
      rw [good_one rfl ho, good_one rfl hp]
      simp [good_nil]
      exact ⟨fun h => by omega, fun h => by omega⟩
  · have k3 : EntS.ok ⟨p, q.version + b, q.value, q.value, false⟩ = false := by
      simp [EntS.ok, inB]; omega
    refine ⟨_, _, add_bad2 k3, by simp, by simp, hfin _ (open_one k2) (by simp) ?_ ?_⟩
    · intro e he
      simp at he
      subst he
      simp; omega
    · rw [good_one rfl ho]
      simp [good_nil]
end Go.Proofs.Ytchkbgekmoileaa

/- One step of a stack that is helped alone (plain). -/
namespace Go.Proofs.Ytchkbgekmoileaa
open Go Go.RowKit
set_option linter.unusedVariables false
set_option linter.unusedSimpArgs false
set_option maxRecDepth 100000
set_option maxHeartbeats 4000000
attribute [local irreducible] VWP vops vdraw contV contD CallK Guard GuardV NextL Puts Runs RetOK RetQ RetO RetQO thenQ blockQ

theorem nodup_le : ∀ (n : Nat) (l : List Int), l.Nodup → (∀ x ∈ l, 0 ≤ x ∧ x < n) → l.length ≤ n
  | 0, l, _, h => by
    cases l with
    | nil => simp
    | cons a l => have := h a (by simp); omega
  | n + 1, l, hn, h => by
    by_cases hm : (n : Int) ∈ l
    · have h1 := nodup_le n (l.erase (n : Int)) (hn.erase _) fun x hx => by
        have h2 := h x (List.mem_of_mem_erase hx)
        have h3 : x ≠ n := fun hh => by subst hh; exact hn.not_mem_erase hx
        omega
      rw [List.length_erase_of_mem hm] at h1
      omega
    · have h1 := nodup_le n l hn fun x hx => by
        have h2 := h x hx
        have h3 : x ≠ n := fun hh => hm (hh ▸ hx)
        omega
      omega

/-- A descriptor that is not decided has an object over which it does not lie. -/
def Unl (s : StoreD) (a : FrameD) (o : Int) : Prop := ∃ (k : Nat) (d : DescS) (i : Nat) (e : EntS), a.desc = k ∧ s.descs[k]? = some d ∧ d.status = 0 ∧ d.entries[i]? = some e ∧ e.object = o ∧ ¬ LiesOn s k o.toNat
theorem chain_up {s : StoreD} (hS : StoreP s) (hP : PreP s) {f : FrameD} {o : Int} (hu : Unl s f o) : ∀ (l : List FrameD) (a : FrameD), Chain s (a :: l) → ((a :: l).map (·.desc)).Nodup → (a :: l).getLast? = some f → ∃ o', Unl s a o' ∧ o' ≤ o
  | [], a, _, _, hl => by
    simp at hl
    subst hl
    exact ⟨o, hu, Int.le_refl _⟩
  | g :: l, a, hc, hn, hl => by
    obtain ⟨hw, hc⟩ := hc
    simp only [List.map_cons, List.nodup_cons] at hn
    obtain ⟨o', ⟨kg, dg, ig, eg, g1, g2, g3, g4, g5, g6⟩, hle⟩ := chain_up hS hP hu l g hc (by simp only [List.map_cons, List.nodup_cons]; exact hn.2) (by rw [← hl]; simp [List.getLast?_cons_cons])
    obtain ⟨_, _, ka, da, i, e, w1, w2, w3, w4, w5⟩ := hw
    have hlie := w5 kg dg g1 g2 g3
    have hfa := hS.2.2.2.1 da (List.mem_of_getElem? w2)
    have hfg := hS.2.2.2.1 dg (List.mem_of_getElem? g2)
    obtain ⟨oe, q1, q2⟩ := fits_obj hfa w4
    obtain ⟨og, q3, q4⟩ := fits_obj hfg g4
    obtain ⟨x, hx, hxd⟩ := hlie
    obtain ⟨i2, e2, p1, p2⟩ := head_in hS hx hxd g2
    have hlt : e.object < o' := by
      rcases Nat.lt_trichotomy i2 ig with c | c | c
      · have := sorted_lt2 hfg.1.1 c p1 g4
        omega
      · subst c
        rw [p1] at g4
        cases g4
        exact absurd ⟨x, by rw [← hx]; congr 1; omega, hxd⟩ g6
      · have := hP kg dg g2 g3 ig i2 eg e2 g4 p1 c ⟨x, by rw [← hx]; congr 1; omega, hxd⟩
        rw [g5] at this
        exact absurd this g6
    refine ⟨e.object, ⟨ka, da, i, e, w1, w2, w3, w4, rfl, fun hh => ?_⟩, by omega⟩
    obtain ⟨y, hy, hyd⟩ := hh
    rw [hx] at hy
    cases hy
    exact hn.1 (by simp; left; omega)
theorem chain_tail {s : StoreD} : ∀ {l1 l2 : List FrameD}, Chain s (l1 ++ l2) → Chain s l2
  | [], l2, h => h
  | [a], l2, h => by
    cases l2 with
    | nil => trivial
    | cons b l2 => exact h.2
  | a :: b :: l1, l2, h => chain_tail (l1 := b :: l1) h.2
theorem no_cycle {s : StoreD} {low : List FrameD} {f : FrameD} (hI : HInv s (low ++ [f])) {k : Nat} {d : DescS} {j : Nat} {e : EntS} {o : Nat} {h : HeadD} (ha : AtP s f k d j e o h) (hst : d.status = 0) (hm : 0 ≤ h.desc) (hne : h.desc ≠ f.desc) : h.desc ∉ (low ++ [f]).map (·.desc) := by
  intro hmem
  simp only [List.map_append, List.map_cons, List.map_nil, List.mem_append, List.mem_map, List.mem_cons, List.not_mem_nil, or_false] at hmem
  rcases hmem with ⟨b, hb, hbd⟩ | hmem
  · obtain ⟨l1, l2, rfl⟩ := List.append_of_mem hb
    have hc : Chain s (b :: (l2 ++ [f])) := chain_tail (l1 := l1) (by have := hI.chain; simpa using this)
    have hn : ((b :: (l2 ++ [f])).map (·.desc)).Nodup := by
      have := hI.nod
      simp only [List.append_assoc, List.cons_append, List.map_append] at this
      rw [List.nodup_append] at this
      simpa using this.2.1
    have hu : Unl s f o := ⟨k, d, j, e, ha.fk, ha.dk, hst, ha.ej, ha.eo, fun hh => by
      rw [Int.toNat_natCast, liesAt ha.ho] at hh
      have := ha.fk
      omega⟩
    obtain ⟨o', ⟨kb, db, ib, eb, b1, b2, b3, b4, b5, b6⟩, hle⟩ := chain_up hI.st hI.pre hu (l2 ++ [f]) b hc hn (by rw [show b :: (l2 ++ [f]) = (b :: l2) ++ [f] from rfl]; exact List.getLast?_concat ..)
    have hfb := hI.st.2.2.2.1 db (List.mem_of_getElem? b2)
    obtain ⟨i2, e2, p1, p2⟩ := head_in hI.st ha.ho (by omega : h.desc = kb) b2
    obtain ⟨ob, q1, q2⟩ := fits_obj hfb b4
    rcases Nat.lt_trichotomy ib i2 with c | c | c
    · have := hI.pre kb db b2 b3 ib i2 eb e2 b4 p1 c ⟨h, by rw [← ha.ho]; congr 1; omega, by omega⟩
      rw [b5] at this
      exact b6 this
    · subst c
      rw [b4] at p1
      cases p1
      exact b6 ⟨h, by rw [← ha.ho]; congr 1; omega, by omega⟩
    · have := sorted_lt2 hfb.1.1 c p1 b4
      omega
  · exact hne hmem

/-- What one step of a stack does. -/
structure HStep (s : StoreD) (fs : List FrameD) (r : StoreD × List FrameD) : Prop where
  inv : HInv r.1 r.2
  pot : potF r.1 r.2 < potF s fs
  hl : r.1.heads.length = s.heads.length
  dl : r.1.descs.length = s.descs.length
  ds : ∀ (k : Nat) (d : DescS), s.descs[k]? = some d → ∃ st : Int, r.1.descs[k]? = some ⟨d.owner, st, d.entries⟩ ∧ (d.status ≠ 0 → st = d.status)
  live : ∀ k : Nat, (k : Int) ∉ r.2.map (·.desc) → LiveP r.1 k → LiveP s k ∧ (k : Int) ∉ fs.map (·.desc)
  dec : ∀ (k : Nat) (d : DescS), (k : Int) ∈ fs.map (·.desc) → (k : Int) ∉ r.2.map (·.desc) → r.1.descs[k]? = some d → d.status ≠ 0

theorem frm_k {s : StoreD} {f : FrameD} (h : frmB s f = true) : 0 ≤ f.desc ∧ f.desc < s.descs.length := by
  unfold frmB at h
  simp only [Bool.and_eq_true] at h
  have := h.1.1
  simp [inB] at this
  omega
theorem bP_congr {p q : Prop} (h : p ↔ q) : bP p = bP q := by
  rcases Classical.em p with hp | hp
  · rw [bP_true hp, bP_true (h.1 hp)]
  · rw [bP_false hp, bP_false fun hq => hp (h.2 hq)]

theorem helpF_step {s : StoreD} {fs : List FrameD} (hI : HInv s fs) (hne : fs ≠ []) : HStep s fs (helpF s fs) := by
  rcases List.eq_nil_or_concat fs with rfl | ⟨low, f, rfl⟩
  · exact absurd rfl hne
  rw [List.concat_eq_append] at *
  have hS := hI.st
  have hfr : ∀ g ∈ low ++ [f], frmB s g = true := hI.frm
  have hf := hfr f (by simp)
  obtain ⟨hF, h5⟩ := hI.top f (List.getLast?_concat ..)
  have hd := dstep hS hf
  obtain ⟨hP', hF'⟩ := dstep_pre hS hf hI.pre hF
  obtain ⟨c1, c2, c3⟩ := dstep_cost hS hf h5
  obtain ⟨k, d, j, e, o, h, ha⟩ := at_ex hS hf
  have hlen : (low ++ [f]).length ≤ 60 := by
    have := nodup_le s.descs.length ((low ++ [f]).map (·.desc)) hI.nod fun x hx => by
      obtain ⟨g, hg, rfl⟩ := List.mem_map.1 hx
      exact frm_k (hfr g hg)
    have h2 := hS.2.2.1
    simp only [List.length_map] at this
    omega
  have hlow : ∀ g ∈ low, g.desc ≠ f.desc := fun g hg hh => by
    have := hI.nod
    simp only [List.map_append, List.map_cons, List.map_nil] at this
    rw [List.nodup_append] at this
    exact this.2.2 g.desc (List.mem_map.2 ⟨g, hg, rfl⟩) f.desc (by simp) hh
  have hpot : potF s (low ++ [f]) = 30 * liveN s (low ++ [f]) + 15 * low.length + cost s f := by
    unfold potF
    rw [List.getLast?_concat]
    simp
  rw [helpF_snoc]
  generalize hr : driveF s f = r at *
  obtain ⟨s', f', m⟩ := r
  simp only at *
  rcases hd.met with hm | ⟨hm, hs', hf', hp1, hml, hmn, k', d', j', e', o', h', ha', hmd⟩
  · simp only at hm
    subst hm
    rw [if_neg (by omega)]
    -- what the pairs say stays
    have hw : ∀ a b : FrameD, a ∈ low → (b ∈ low ∨ b = f) → Wants s a b → Wants s' a b := fun a b ha hb hw => by
      obtain ⟨w1, w2, ka, da, i, ea, w3, w4, w5, w6, w7⟩ := hw
      obtain ⟨st, q1, q2, q3⟩ := hd.ds ka da w4
      have hka := hlow a ha
      refine ⟨w1, w2, ka, ⟨da.owner, st, da.entries⟩, i, ea, w3, q1, by rw [q2 (by omega)]; exact w5, w6, fun kb db hb1 hb2 hb3 => ?_⟩
      obtain ⟨db0, hdb0⟩ : ∃ x, s.descs[kb]? = some x := ⟨_, List.getElem?_eq_getElem (by have := (List.getElem?_eq_some_iff.1 hb2).1; rw [← hd.dl]; exact this)⟩
      obtain ⟨st', r1, r2, r3⟩ := hd.ds kb db0 hdb0
      rw [hb2] at r1
      cases r1
      simp only at hb3
      have h0 : db0.status = 0 := by
        rcases Int.decEq db0.status 0 with c | c
        · have := r3 c; omega
        · exact c
      have hl := w7 kb db0 hb1 hdb0 h0
      by_cases hkb : (kb : Int) = f.desc
      · exact dstep_keep hd hF hkb.symm hdb0 h0 hl
      · exact (dstep_lies hd hkb).2 hl
    have hchain : Chain s' low := chain_mono (fun a b ha hb => hw a b ha (.inl hb)) (chain_init hI.chain)
    have hfrl : ∀ g ∈ low, frmB s' g = true := fun g hg => by
      have h1 := hfr g (by simp [hg])
      obtain ⟨kg, dg, jg, eg, og, hg', hag⟩ := at_ex hS h1
      obtain ⟨st, q1, q2, q3⟩ := hd.ds kg dg hag.dk
      unfold frmB at h1 ⊢
      rw [hag.fk, Int.toNat_natCast] at h1 ⊢
      rw [hag.dk] at h1
      rw [q1, hd.dl]
      exact h1
    have hlive : ∀ k : Nat, (k : Int) ≠ f.desc → (LiveP s' k ↔ LiveP s k) := fun k hk => by
      constructor
      · rintro ⟨o, ho⟩; exact ⟨o, (dstep_lies hd hk).1 ho⟩
      · rintro ⟨o, ho⟩; exact ⟨o, (dstep_lies hd hk).2 ho⟩
    have hnodl : (low.map (·.desc)).Nodup := by
      have := hI.nod
      simp only [List.map_append] at this
      rw [List.nodup_append] at this
      exact this.1
    by_cases hph : f'.phase = 5
    · rw [if_pos hph]
      obtain ⟨st, q1, q2, q3⟩ := hd.ds k d ha.dk
      have hk' : f'.desc = k := by rw [hd.desc]; exact ha.fk
      obtain ⟨t1, t2⟩ := hF'.p5 k _ hk' q1 hph
      have hdead : ¬ LiveP s' k := by
        rintro ⟨o, x, hx, hxd⟩
        obtain ⟨i, e, p1, p2⟩ := head_in hd.st hx hxd q1
        exact t2 i e p1 ⟨x, by rw [← hx]; congr 1; omega, hxd⟩
      have hliveN : liveN s' low = liveN s (low ++ [f]) := by
        unfold liveN
        rw [hd.dl]
        congr 1
        refine List.filter_congr fun y hy => bP_congr ?_
        simp only [List.map_append, List.map_cons, List.map_nil, List.mem_append, List.mem_cons, List.not_mem_nil, or_false, not_or]
        by_cases hy : (y : Int) = f.desc
        · have : y = k := by have := ha.fk; omega
          subst this
          constructor
          · intro hh; exact absurd hh.1 hdead
          · intro hh; exact absurd hy hh.2.2
        · rw [hlive y hy]
          constructor
          · intro hh; exact ⟨hh.1, hh.2, hy⟩
          · intro hh; exact ⟨hh.1, hh.2.1⟩
      refine ⟨⟨hd.st, hP', hchain, hnodl, hfrl, fun g hg => ?_⟩, ?_, hd.hl, hd.dl, fun k d hk => ?_, fun k' hk' hl => ?_, fun k' d' hk' hk2 hd' => ?_⟩
      · rcases List.eq_nil_or_concat low with rfl | ⟨l2, g2, rfl⟩
        · cases hg
        · rw [List.concat_eq_append] at *
          rw [List.getLast?_concat] at hg
          have hg := Option.some.inj hg
          subst hg
          have hc := hI.chain
          rw [List.append_assoc] at hc
          have hw := (chain_app (s := s) (l := l2) (f := g2) (g := f)).1 hc |>.2
          have e : g2 = ⟨g2.desc, 0, 0⟩ := by
            obtain ⟨w1, w2, _⟩ := hw
            cases g2
            simp_all
          refine ⟨?_, by rw [hw.1]; decide⟩
          rw [e]
          exact frP_zero (by omega) (by omega) (by omega) (by omega)
      · rw [hpot]
        unfold potF
        rcases List.eq_nil_or_concat low with rfl | ⟨l2, g2, rfl⟩
        · simp only [List.getLast?_nil]; omega
        · rw [List.concat_eq_append] at *
          rw [List.getLast?_concat, hliveN]
          simp only
          have hc : cost s' g2 ≤ 14 := by
            obtain ⟨kg, dg, jg, eg, og, hg', hag⟩ := at_ex hS (hfr g2 (by simp))
            obtain ⟨st, q1, q2, q3⟩ := hd.ds kg dg hag.dk
            rw [cost_at hag.fk q1]
            have := (hS.2.2.2.1 dg (List.mem_of_getElem? hag.dk)).1.2.2.2.2.2
            simp only
            split
            · omega
            split
            · omega
            split <;> omega
          simp only [List.length_append, List.length_cons, List.length_nil]
          omega
      · obtain ⟨st, q1, q2, q3⟩ := hd.ds k d hk
        exact ⟨st, q1, q3⟩
      · by_cases c : (k' : Int) = f.desc
        · have : k' = k := by have := ha.fk; omega
          subst this
          exact absurd hl hdead
        · refine ⟨(hlive k' c).1 hl, ?_⟩
          simp only [List.map_append, List.map_cons, List.map_nil, List.mem_append, List.mem_cons, List.not_mem_nil, or_false, not_or]
          exact ⟨hk', c⟩
      · simp only [List.map_append, List.map_cons, List.map_nil, List.mem_append, List.mem_cons, List.not_mem_nil, or_false] at hk'
        rcases hk' with hk' | hk'
        · exact absurd hk' hk2
        · have : k' = k := by have := ha.fk; omega
          subst this
          rw [q1] at hd'
          cases hd'
          exact t1
    · rw [if_neg hph]
      have hdd : f'.desc = f.desc := hd.desc
      have hmap : (low ++ [f']).map (·.desc) = (low ++ [f]).map (·.desc) := by simp [hdd]
      have hliveN : liveN s' (low ++ [f']) ≤ liveN s (low ++ [f]) := by
        unfold liveN
        rw [hd.dl, hmap]
        refine Nat.le_of_eq (congrArg _ (List.filter_congr fun y hy => bP_congr ?_))
        simp only [List.map_append, List.map_cons, List.map_nil, List.mem_append, List.mem_cons, List.not_mem_nil, or_false, not_or]
        by_cases hy : (y : Int) = f.desc
        · constructor <;> exact fun hh => absurd hy hh.2.2
        · rw [hlive y hy]
      refine ⟨⟨hd.st, hP', ?_, by rw [hmap]; exact hI.nod, fun g hg => ?_, fun g hg => ?_⟩, ?_, hd.hl, hd.dl, fun k d hk => ?_, fun k' hk' hl => ?_, fun k' d' hk' hk2 hd' => ?_⟩
      · rcases List.eq_nil_or_concat low with rfl | ⟨l2, g2, rfl⟩
        · trivial
        · rw [List.concat_eq_append] at *
          have hc := hI.chain
          rw [List.append_assoc] at hc ⊢
          have hw2 := (chain_app (s := s) (l := l2) (f := g2) (g := f)).1 hc |>.2
          refine (chain_app (s := s') (l := l2) (f := g2) (g := f')).2 ⟨hchain, ?_⟩
          obtain ⟨w1, w2, ka, da, i, ea, w3, w4, w5, w6, w7⟩ := hw g2 f (by simp) (.inr rfl) hw2
          exact ⟨w1, w2, ka, da, i, ea, w3, w4, w5, w6, fun kb db hb1 hb2 hb3 => w7 kb db (by rw [← hd.desc]; exact hb1) hb2 hb3⟩
      · simp only [List.mem_append, List.mem_cons, List.not_mem_nil, or_false] at hg
        rcases hg with hg | rfl
        · exact hfrl g hg
        · exact hd.fr
      · rw [List.getLast?_concat] at hg
        cases hg
        exact ⟨hF', hph⟩
      · rw [hpot]
        unfold potF
        rw [List.getLast?_concat]
        simp only [List.length_append, List.length_cons, List.length_nil]
        have := c2 rfl hph
        omega
      · obtain ⟨st, q1, q2, q3⟩ := hd.ds k d hk
        exact ⟨st, q1, q3⟩
      · simp only at hk'
        rw [hmap] at hk'
        have c : (k' : Int) ≠ f.desc := fun hh => hk' (by simp [hh])
        exact ⟨(hlive k' c).1 hl, hk'⟩
      · simp only at hk2
        rw [hmap] at hk2
        exact absurd hk' hk2
  · simp only at hm hs' hf' hml hmn hmd
    subst hs'
    rw [if_pos hm, if_neg (by have : (low ++ [f]).length = low.length + 1 := by simp
                              omega)]
    obtain ⟨hst, hlaid⟩ := hF.p1 k' d' ha'.fk ha'.dk hp1
    have hcyc := no_cycle hI ha' hst (by omega) (by omega)
    rw [hmd] at hcyc
    obtain ⟨km, hkm⟩ : ∃ km : Nat, m = km := ⟨m.toNat, by omega⟩
    obtain ⟨dm, hdm⟩ : ∃ dm, s'.descs[km]? = some dm := ⟨_, List.getElem?_eq_getElem (by omega)⟩
    have hfdm := hS.2.2.2.1 dm (List.mem_of_getElem? hdm)
    have hlow2 : ∀ g ∈ low, frmB s' g = true := fun g hg => hfr g (by simp [hg])
    subst hf'
    have hmap : (low ++ [(⟨f.desc, 0, 0⟩ : FrameD), ⟨m, 0, 0⟩]).map (·.desc) = (low ++ [f]).map (·.desc) ++ [m] := by simp
    refine ⟨⟨hS, hI.pre, ?_, ?_, fun g hg => ?_, fun g hg => ?_⟩, ?_, rfl, rfl, fun k d hk => ⟨d.status, hk, fun _ => rfl⟩, fun k2 hk2 hl => ?_, fun k2 d2 h1 h2 => ?_⟩
    · refine chain_app.2 ⟨?_, rfl, rfl, k', d', j', e', ha'.fk, ha'.dk, hst, ha'.ej, fun kb db hb1 hb2 hb3 => ⟨h', by rw [← ha'.ho]; congr 1; have := ha'.eo; omega, by simp only at hb1; omega⟩⟩
      rcases List.eq_nil_or_concat low with rfl | ⟨l2, g2, rfl⟩
      · trivial
      · rw [List.concat_eq_append] at *
        have hc := hI.chain
        rw [List.append_assoc] at hc
        obtain ⟨h1, h2⟩ := (chain_app (s := s') (l := l2) (f := g2) (g := f)).1 hc
        have := (chain_app (s := s') (l := l2) (f := g2) (g := ⟨f.desc, 0, 0⟩)).2 ⟨h1, h2⟩
        simpa using this
    · simp only
      rw [hmap, List.nodup_append]
      refine ⟨hI.nod, by simp, fun a ha b hb => ?_⟩
      simp only [List.mem_cons, List.not_mem_nil, or_false] at hb
      subst hb
      intro hh
      subst hh
      exact hcyc ha
    · simp only [List.mem_append, List.mem_cons, List.not_mem_nil, or_false] at hg
      rcases hg with hg | rfl | rfl
      · exact hlow2 g hg
      · exact hd.fr
      · rw [hkm]
        exact frm_zero hdm (by omega) (by omega) hfdm.1.2.2.2.2.1
    · have e1 : (low ++ [(⟨f.desc, 0, 0⟩ : FrameD), ⟨m, 0, 0⟩]) = (low ++ [(⟨f.desc, 0, 0⟩ : FrameD)]) ++ [⟨m, 0, 0⟩] := by simp
      simp only at hg
      rw [e1, List.getLast?_concat] at hg
      cases hg
      exact ⟨frP_zero (f := ⟨m, 0, 0⟩) (by omega) (by omega) (by omega) (by omega), by simp⟩
    · rw [hpot]
      have e1 : (low ++ [(⟨f.desc, 0, 0⟩ : FrameD), ⟨m, 0, 0⟩]) = (low ++ [(⟨f.desc, 0, 0⟩ : FrameD)]) ++ [⟨m, 0, 0⟩] := by simp
      have hl : liveN s' (low ++ [(⟨f.desc, 0, 0⟩ : FrameD), ⟨m, 0, 0⟩]) < liveN s' (low ++ [f]) := by
        unfold liveN
        rw [hmap]
        refine filter_lt (x := km) (fun y _ hy => ?_) (by simp only [List.mem_range]; omega) ?_ ?_
        · rw [bP_iff] at hy ⊢
          exact ⟨hy.1, fun hh => hy.2 (by simp only [List.mem_append]; exact .inl hh)⟩
        · rw [bP_iff]
          exact ⟨⟨o', h', ha'.ho, by omega⟩, by rw [← hkm]; exact hcyc⟩
        · exact bP_false fun hh => hh.2 (by simp [hkm])
      have hc : cost s' ⟨m, 0, 0⟩ ≤ 14 := by
        rw [cost_at (k := km) (d := dm) hkm hdm]
        have := hfdm.1.2.2.2.2.2
        simp
        omega
      unfold potF
      simp only
      rw [e1, List.getLast?_concat, ← e1]
      simp only [List.length_append, List.length_cons, List.length_nil]
      have := c3 hm
      omega
    · simp only at hk2
      rw [hmap] at hk2
      exact ⟨hl, fun hh => hk2 (by simp only [List.mem_append]; exact .inl hh)⟩
    · simp only at h2
      rw [hmap] at h2
      exact absurd (by simp only [List.mem_append]; exact .inl h1) h2
end Go.Proofs.Ytchkbgekmoileaa

/- What both Held give, and the law on values. -/
namespace Go.Proofs.Ytchkbgekmoileaa
open Go Go.RowKit
set_option linter.unusedVariables false
set_option linter.unusedSimpArgs false
set_option maxRecDepth 100000
set_option maxHeartbeats 4000000
attribute [local irreducible] VWP vops vdraw contV contD CallK Guard GuardV NextL Puts Runs RetOK RetQ RetO RetQO thenQ blockQ
attribute [local irreducible] NextB

def liesB (hs : List HeadD) (j : Nat) : Bool := match hs[j]? with
  | some h => decide (0 ≤ h.desc)
  | none => false
/-- The objects, ahead of a place, over which a descriptor lies. -/
def heldN (hs : List HeadD) (i : Nat) : List Int := ((List.range i).filter (liesB hs)).map fun (j : Nat) => ((j : Nat) : Int)
noncomputable def heldL (s : StoreD) : List Int := if bP (StoreP s) = true then heldN s.heads s.heads.length else []
theorem heldN_yes {hs : List HeadD} {i : Nat} {h : HeadD} (hh : hs[i]? = some h) (hd : 0 ≤ h.desc) : heldN hs (i + 1) = heldN hs i ++ [(i : Int)] := by
  unfold heldN
  rw [List.range_succ, List.filter_append, List.map_append]
  simp [List.filter_cons, liesB, hh, hd]
theorem heldN_no {hs : List HeadD} {i : Nat} {h : HeadD} (hh : hs[i]? = some h) (hd : ¬ 0 ≤ h.desc) : heldN hs (i + 1) = heldN hs i := by
  unfold heldN
  rw [List.range_succ, List.filter_append, List.map_append]
  simp [List.filter_cons, liesB, hh, hd]
theorem heldN_len (hs : List HeadD) (i : Nat) : (heldN hs i).length ≤ i := by
  unfold heldN
  rw [List.length_map]
  exact Nat.le_trans (List.length_filter_le _ _) (by simp)
theorem rowsN_one (w : List Int) (f : Int) : rowsN w ++ [[.int .i64 f]] = rowsN (w ++ [f]) := by simp [rowsN, encN]
theorem implHeld_ok (s : StoreD) (r : List Int) (hr : heldL s = r) (hs : s.small) : SatP Try.prog 26 [.agg (s.cells 36 40 70)] (.rf 0 r.length) [(3, rowsN r)] := by
  have hc := implStoreOk_ok s hs
  obtain ⟨f1, f2, f3⟩ := hs
  refine satP_of_body hT Try.func26 (by kernel_rfl) rfl (rs := [.tmp 2]) rfl (n := 28) rfl (by simp) rfl (by simpa using rowsN_pur r) fun E hE => ?_
  unfold St.init
  unfold StoreD.cells at *
  cases hp : bP (StoreP s) with
  | false =>
    rw [hp] at hc
    rw [heldL, if_neg (by rw [hp]; exact fun h => nomatch h)] at hr
    subst hr
    have F := (Eq.refl 0)
    repeat' first
      | refine wSq fun _ hK => ?_
      | refine wRg ?_
      | refine wDr ?_
      | refine VWP_block ?_
      | refine VWP_skip ?_
      | refine VWP_exit ?_
      | refine VWP_ret ?_
      | (refine hK _ ?_; clear hK)
      | (clear hK; refine hK _ ?_; clear hK)
      | (clear hK; clear hK; refine hK _ ?_; clear hK)
      | (clear hK; clear hK; clear hK; refine hK _ ?_; clear hK)
      | (simp only [wHb, reduceCtorEq] at hb <;> try (exfalso; omega))
      | refine wCd (fun hb => ?_) fun hb => ?_
      | refine wCa (c := by first | exact hc) (k := ?_)
      | simp only [go_sem, Nat.reduceLT, Nat.reduceLeDiff, Nat.reduceEqDiff, Nat.reduceAdd, Nat.reduceMul, Nat.reduceSub, reduceCtorEq, F]
      | simp (disch := omega) only [decide_eq_true_eq, if_pos, if_neg, wrap_id, le_maxLen, and_true, true_and, if_true, ite_true]
      | refine wGd (fun hb => ?_) fun hb => ?_
    exact ret_rf (T := 1) (by simp only [go_sem, Nat.reduceLT, Nat.reduceLeDiff, Nat.reduceEqDiff, Nat.reduceAdd, Nat.reduceMul, Nat.reduceSub, reduceCtorEq]; try simp) (by simp only [go_sem, Nat.reduceLT, Nat.reduceLeDiff, Nat.reduceEqDiff, Nat.reduceAdd, Nat.reduceMul, Nat.reduceSub, reduceCtorEq]; try rfl) rfl (rowsN_pur [])
  | true =>
    rw [hp] at hc
    rw [heldL, if_pos hp] at hr
    subst hr
    have F := @rowsH_len
    repeat' first
      | refine wSq fun _ hK => ?_
      | refine wRg ?_
      | refine wDr ?_
      | refine VWP_block ?_
      | refine VWP_skip ?_
      | refine VWP_exit ?_
      | refine VWP_ret ?_
      | (refine hK _ ?_; clear hK)
      | (clear hK; refine hK _ ?_; clear hK)
      | (clear hK; clear hK; refine hK _ ?_; clear hK)
      | (clear hK; clear hK; clear hK; refine hK _ ?_; clear hK)
      | (simp only [wHb, reduceCtorEq] at hb <;> try (exfalso; omega))
      | refine wCd (fun hb => ?_) fun hb => ?_
      | refine wCa (c := by first | exact hc) (k := ?_)
      | simp only [go_sem, Nat.reduceLT, Nat.reduceLeDiff, Nat.reduceEqDiff, Nat.reduceAdd, Nat.reduceMul, Nat.reduceSub, reduceCtorEq, F]
      | simp (disch := omega) only [decide_eq_true_eq, if_pos, if_neg, wrap_id, le_maxLen, and_true, true_and, if_true, ite_true]
      | refine wGd (fun hb => ?_) fun hb => ?_
    refine VWP_loopB (X := Nat × Nat) (fun x => [(1, .bp 0 0), (3, .rf x.2 (heldN s.heads x.1).length), (12, .fr 36 (rowsH s.heads)), (13, .int .i64 s.heads.length), (14, .int .i64 x.1)]) (fun x => [(0, .box [.fr 36 (rowsH s.heads), .fr 40 (rowsD 70 s.descs)]), (x.2, .root 3 (rowsN (heldN s.heads x.1)))]) (fun x => s.heads.length - x.1)
      (fun x => x.1 ≤ s.heads.length ∧ 1 ≤ x.2) (fun x => x.2 + 1) (0, 1) ⟨by simp, by simp⟩ (by simp [updV, heldN]) (by simp [updH, heldN, rowsN]) (by simp) ?_
    rintro ⟨i, T⟩ nx ⟨hi, hTg⟩ hB
    simp only at hi hTg hB
    have hne0 : (0 : Nat) ≠ T := by omega
    have hne1 : T ≠ 0 := by omega
    have hw := wrap_id (x := (i : Int) + 1) (by omega)
    rcases Nat.lt_or_ge i s.heads.length with hlt | hge
    · obtain ⟨h, hh⟩ : ∃ h, s.heads[i]? = some h := ⟨_, List.getElem?_eq_getElem hlt⟩
      have hre := rowsH_at hh
      have n0 : nx ≠ 0 := by omega
      have m0 : (0 : Nat) ≠ nx := by omega
      have n1 : nx ≠ T := by omega
      have m1 : T ≠ nx := by omega
      have n2 : nx + 1 ≠ T := by omega
      have m2 : T ≠ nx + 1 := by omega
      have n3 : nx + 1 + 1 ≠ T := by omega
      have m3 : T ≠ nx + 1 + 1 := by omega
      have hln := heldN_len s.heads i
      have ht := rowsN_take (heldN s.heads i)
      have ho := rowsN_one (heldN s.heads i) i
      by_cases hd : 0 ≤ h.desc
      · have hsu := heldN_yes hh hd
        have F := And.intro @rowsH_len (And.intro hre (And.intro hd (And.intro hne0 (And.intro hne1 (And.intro n0 (And.intro m0 (And.intro n1 (And.intro m1 (And.intro n2 (And.intro m2 (And.intro n3 (And.intro m3 (And.intro @rowsN_len (And.intro ht (And.intro ho @Nat.le_refl)))))))))))))))
        repeat' first
          | refine wSq fun _ hK => ?_
          | refine wRg ?_
          | refine wDr ?_
          | refine VWP_block ?_
          | refine VWP_skip ?_
          | refine VWP_exit ?_
          | refine VWP_ret ?_
          | (refine hK _ ?_; clear hK)
          | (clear hK; refine hK _ ?_; clear hK)
          | (clear hK; clear hK; refine hK _ ?_; clear hK)
          | (clear hK; clear hK; clear hK; refine hK _ ?_; clear hK)
          | (simp only [wHb, reduceCtorEq] at hb <;> try (exfalso; omega))
          | refine wCd (fun hb => ?_) fun hb => ?_
          | simp only [go_sem, Nat.reduceLT, Nat.reduceLeDiff, Nat.reduceEqDiff, Nat.reduceAdd, Nat.reduceMul, Nat.reduceSub, reduceCtorEq, F]
          | simp (disch := omega) only [decide_eq_true_eq, if_pos, if_neg, wrap_id, le_maxLen, and_true, true_and, if_true, ite_true]
          | refine wGd (fun hb => ?_) fun hb => ?_
        refine nextB (i + 1, nx + 1 + 1) ⟨by simp only; omega, by simp only; omega⟩ (by simp only; omega) ?_ ?_ (by first | omega | (simp; try omega))
        · simp [updV, tmL, hw, hsu]
        · simp [updH, hpL, hsu, hne0, m0, n0, n1, m1, n3, m3]
          try omega
      · have hsu := heldN_no hh hd
        have F := And.intro @rowsH_len (And.intro hre (And.intro hd (And.intro hne0 (And.intro hne1 (And.intro n0 (And.intro m0 (And.intro n1 (And.intro m1 (And.intro n2 (And.intro m2 (And.intro @rowsN_len (And.intro ht (And.intro ho @Nat.le_refl)))))))))))))
        repeat' first
          | refine wSq fun _ hK => ?_
          | refine wRg ?_
          | refine wDr ?_
          | refine VWP_block ?_
          | refine VWP_skip ?_
          | refine VWP_exit ?_
          | refine VWP_ret ?_
          | (refine hK _ ?_; clear hK)
          | (clear hK; refine hK _ ?_; clear hK)
          | (clear hK; clear hK; refine hK _ ?_; clear hK)
          | (clear hK; clear hK; clear hK; refine hK _ ?_; clear hK)
          | (simp only [wHb, reduceCtorEq] at hb <;> try (exfalso; omega))
          | refine wCd (fun hb => ?_) fun hb => ?_
          | simp only [go_sem, Nat.reduceLT, Nat.reduceLeDiff, Nat.reduceEqDiff, Nat.reduceAdd, Nat.reduceMul, Nat.reduceSub, reduceCtorEq, F]
          | simp (disch := omega) only [decide_eq_true_eq, if_pos, if_neg, wrap_id, le_maxLen, and_true, true_and, if_true, ite_true]
          | refine wGd (fun hb => ?_) fun hb => ?_
        refine nextB (i + 1, T) ⟨by simp only; omega, by simp only; omega⟩ (by simp only; omega) ?_ ?_ (by first | omega | (simp; try omega))
        · simp [updV, tmL, hw, hsu]
        · simp [updH, hpL, hsu, hne0, m0, n0, n1, m1]
          try omega
    · obtain rfl : i = s.heads.length := by omega
      have F := And.intro @rowsH_len (And.intro hne0 hne1)
      repeat' first
        | refine wSq fun _ hK => ?_
        | refine wRg ?_
        | refine wDr ?_
        | refine VWP_block ?_
        | refine VWP_skip ?_
        | refine VWP_exit ?_
        | refine VWP_ret ?_
        | (refine hK _ ?_; clear hK)
        | (clear hK; refine hK _ ?_; clear hK)
        | (clear hK; clear hK; refine hK _ ?_; clear hK)
        | (clear hK; clear hK; clear hK; refine hK _ ?_; clear hK)
        | (simp only [wHb, reduceCtorEq] at hb <;> try (exfalso; omega))
        | refine wCd (fun hb => ?_) fun hb => ?_
        | simp only [go_sem, Nat.reduceLT, Nat.reduceLeDiff, Nat.reduceEqDiff, Nat.reduceAdd, Nat.reduceMul, Nat.reduceSub, reduceCtorEq, F]
        | simp (disch := omega) only [decide_eq_true_eq, if_pos, if_neg, wrap_id, le_maxLen, and_true, true_and, if_true, ite_true]
        | refine wGd (fun hb => ?_) fun hb => ?_
      exact ret_rf (T := T) (by simp only [go_sem, Nat.reduceLT, Nat.reduceLeDiff, Nat.reduceEqDiff, Nat.reduceAdd, Nat.reduceMul, Nat.reduceSub, reduceCtorEq, hne0, hne1]; try simp) (by simp only [go_sem, Nat.reduceLT, Nat.reduceLeDiff, Nat.reduceEqDiff, Nat.reduceAdd, Nat.reduceMul, Nat.reduceSub, reduceCtorEq, hne0, hne1]; try rfl) (rowsN_len _).symm (rowsN_pur _)
theorem heldL_len (s : StoreD) : (heldL s).length ≤ s.heads.length := by
  unfold heldL
  split
  · exact heldN_len _ _
  · simp
end Go.Proofs.Ytchkbgekmoileaa

/- What both FinishAll give. -/
namespace Go.Proofs.Ytchkbgekmoileaa
open Go Go.RowKit
set_option linter.unusedVariables false
set_option linter.unusedSimpArgs false
set_option maxRecDepth 100000
set_option maxHeartbeats 4000000
attribute [local irreducible] VWP vops vdraw contV contD CallK Guard GuardV NextL Puts Runs RetOK RetQ RetO RetQO thenQ blockQ
attribute [local irreducible] NextN

def hdOf (s : StoreD) (o : Int) : Int := match s.heads[o.toNat]? with
  | some h => h.desc
  | none => 0
/-- Finish the descriptor that lies over the first object over which one lies, so many times at most. -/
noncomputable def finAllF : Nat → StoreD → StoreD × Bool
  | 0, s => (s, (heldL s).isEmpty)
  | m + 1, s => match heldL s with
    | [] => (s, true)
    | o :: _ => finAllF m (finF 2000 s [⟨hdOf s o, 0, 0⟩]).1
noncomputable def finAllR (s : StoreD) : StoreD × Bool := if bP (StoreP s) = true then (if (finAllF 60 s).2 = true then ((finAllF 60 s).1, true) else (s, false)) else (s, false)
theorem heldL_cons {s : StoreD} {o : Int} {rest : List Int} (h : heldL s = o :: rest) : ∃ (k : Nat) (hd : HeadD), StoreP s ∧ o = k ∧ s.heads[k]? = some hd ∧ hdOf s o = hd.desc ∧ stackB s [⟨hd.desc, 0, 0⟩] = true ∧ stuckB s [⟨hd.desc, 0, 0⟩] = false := by
  unfold heldL at h
  split at h
  · rename_i hp
    have hS := bP_iff.1 hp
    have hm : o ∈ heldN s.heads s.heads.length := by rw [h]; exact List.mem_cons_self ..
    unfold heldN at hm
    simp only [List.mem_map, List.mem_filter, List.mem_range] at hm
    obtain ⟨k, ⟨hk, hl⟩, rfl⟩ := hm
    obtain ⟨hd, hh⟩ : ∃ hd, s.heads[k]? = some hd := ⟨_, List.getElem?_eq_getElem hk⟩
    simp only [liesB, hh, decide_eq_true_eq] at hl
    have hb := hS.2.2.2.2 k hd hh
    unfold headB at hb
    simp only [Bool.and_eq_true] at hb
    have hd2 := hb.1.2
    refine ⟨k, hd, hS, rfl, hh, by simp [hdOf, hh], ?_, ?_⟩
    · simp [inB] at hd2
      simp [stackB, hp, stB, frmB, inB]
      omega
    · simp [stuckB]
  · cases h
theorem finAll_step {m : Nat} {s : StoreD} {o : Int} {rest : List Int} (h : heldL s = o :: rest) : finAllF (m + 1) s = finAllF m (finF 2000 s [⟨hdOf s o, 0, 0⟩]).1 := by rw [finAllF, h]
theorem finAll_nil {m : Nat} {s : StoreD} (h : heldL s = []) : finAllF m s = (s, true) := by
  cases m with
  | zero => simp [finAllF, h]
  | succ m => rw [finAllF, h]
theorem rowsN_cons (o : Int) (rest : List Int) : (rowsN (o :: rest))[0]? = some [.int .i64 o] := by simp [rowsN, encN]
structure AllJ (s0 : StoreD) (i : Nat) (s : StoreD) : Prop where
  le : i ≤ 60
  tin : s.tiny
  hl : s.heads.length = s0.heads.length
  dl : s.descs.length = s0.descs.length
  res : finAllF 60 s0 = finAllF (60 - i) s
theorem allJ_step {s0 s : StoreD} {i : Nat} (h : AllJ s0 i s) (hi : i < 60) {o : Int} {rest : List Int} (ho : heldL s = o :: rest) : AllJ s0 (i + 1) (finF 2000 s [⟨hdOf s o, 0, 0⟩]).1 := by
  obtain ⟨k, hd, hS, rfl, hh, hdo, hst, hsk⟩ := heldL_cons ho
  rw [hdo]
  have hI := stack_help hst
  have hk := finF_keeps 2000 hI
  refine ⟨hi, finF_tiny 2000 hI h.tin, by rw [← h.hl]; exact hk.hl, by rw [← h.dl]; exact hk.dl, ?_⟩
  rw [h.res, show 60 - i = (60 - (i + 1)) + 1 by omega, finAll_step ho, hdo]
theorem implFinishAll_ok (s0 : StoreD) (hs : s0.tiny) (r : StoreD × Bool) (hr : finAllR s0 = r) :
    SatP Try.prog 7 [.agg (s0.cells 36 40 70)]
      (.tup [.agg [.rf 0 s0.heads.length, .rf 1 s0.descs.length], .bool r.2]) [(36, rowsH r.1.heads), (40, rowsD 70 r.1.descs)] := by
  have hc := implStoreOk_ok s0 hs.small
  have ho := ownStore_ok s0 hs.small
  refine satP_of_body hT Try.func7 (by kernel_rfl) rfl (rs := [.cell 2 27, .tmp 3]) rfl (n := 40) rfl (by simp) rfl (by simp [rowsH_pur, rowsD_pur]) fun E hE => ?_
  unfold St.init
  unfold StoreD.cells at *
  rcases (Bool.eq_false_or_eq_true (bP (StoreP s0))).symm with hp | hp
  · rw [finAllR, if_neg (by rw [hp]; exact fun h => nomatch h)] at hr
    subst hr
    rw [hp] at hc
    have F := And.intro @rowsH_len (And.intro @rowsD_len (And.intro @rowsH_take @rowsD_take))
    repeat' first
      | refine wSq fun _ hK => ?_
      | refine wRg ?_
      | refine wDr ?_
      | refine VWP_block ?_
      | refine VWP_skip ?_
      | refine VWP_exit ?_
      | refine VWP_ret ?_
      | (refine hK _ ?_; clear hK)
      | (clear hK; refine hK _ ?_; clear hK)
      | (clear hK; clear hK; refine hK _ ?_; clear hK)
      | (clear hK; clear hK; clear hK; refine hK _ ?_; clear hK)
      | (simp only [wHb, reduceCtorEq] at hb <;> try (exfalso; omega))
      | refine wCd (fun hb => ?_) fun hb => ?_
      | refine wCa (c := by first | exact hc | exact ho) (k := ?_)
      | simp only [go_sem, Nat.reduceLT, Nat.reduceLeDiff, Nat.reduceEqDiff, Nat.reduceAdd, Nat.reduceMul, Nat.reduceSub, reduceCtorEq, F]
      | simp (disch := omega) only [decide_eq_true_eq, if_pos, if_neg, wrap_id, le_maxLen, and_true, true_and, if_true, ite_true]
      | refine wGd (fun hb => ?_) fun hb => ?_
    refine ret_mk (vs := _) (acc := _) (by simp only [go_sem, Nat.reduceLT, Nat.reduceLeDiff, Nat.reduceEqDiff, Nat.reduceAdd, Nat.reduceMul, Nat.reduceSub, reduceCtorEq, vres]; rfl) (by simp only [go_sem, Nat.reduceLT, Nat.reduceLeDiff, Nat.reduceEqDiff, Nat.reduceAdd, Nat.reduceMul, Nat.reduceSub, reduceCtorEq, wrap, exV, exAs, exA, exCs, exC, rowsH_len, rowsH_take, rowsD_len, rowsD_take, Nat.le_refl]; rfl) (by simp) (by simp) (by simp [rowsH_pur, rowsD_pur])
  · rw [finAllR, if_pos hp] at hr
    rw [hp] at hc
    have F := And.intro @rowsH_len (And.intro @rowsD_len (And.intro @rowsH_take @rowsD_take))
    repeat' first
      | refine wSq fun _ hK => ?_
      | refine wRg ?_
      | refine wDr ?_
      | refine VWP_block ?_
      | refine VWP_skip ?_
      | refine VWP_exit ?_
      | refine VWP_ret ?_
      | (refine hK _ ?_; clear hK)
      | (clear hK; refine hK _ ?_; clear hK)
      | (clear hK; clear hK; refine hK _ ?_; clear hK)
      | (clear hK; clear hK; clear hK; refine hK _ ?_; clear hK)
      | (simp only [wHb, reduceCtorEq] at hb <;> try (exfalso; omega))
      | refine wCd (fun hb => ?_) fun hb => ?_
      | refine wCa (c := by first | exact hc | exact ho) (k := ?_)
      | simp only [go_sem, Nat.reduceLT, Nat.reduceLeDiff, Nat.reduceEqDiff, Nat.reduceAdd, Nat.reduceMul, Nat.reduceSub, reduceCtorEq, F]
      | simp (disch := omega) only [decide_eq_true_eq, if_pos, if_neg, wrap_id, le_maxLen, and_true, true_and, if_true, ite_true]
      | refine wGd (fun hb => ?_) fun hb => ?_
    refine VWP_loopN hE (X := Nat × StoreD) (fun x => [(1, .bp 0 0), (2, .bp 1 0), (4, .bp 4 0), (13, .int .i64 x.1)]) (fun x => [(0, .box [.fr 36 (rowsH s0.heads), .fr 40 (rowsD 70 s0.descs)]), (1, .box [.nl 36, .nl 40]), (4, .box [.rf 2 s0.heads.length, .rf 3 s0.descs.length]), (2, .root 36 (rowsH x.2.heads)), (3, .root 40 (rowsD 70 x.2.descs))])
      (fun x => 60 - x.1) (fun x => AllJ s0 x.1 x.2) [0, 1, 2, 3, 4] (0, s0) ⟨by simp, hs, rfl, rfl, by simp⟩ (by decide) (by decide) (by simp [updV, renV, renA, renC]) (by simp [updH, renH_at, renE, renC, rowsH_pur, rowsD_pur]) ?_
    rintro ⟨i, s⟩ hJ
    have hle : i ≤ 60 := hJ.le
    have hhl : s.heads.length = s0.heads.length := hJ.hl
    have hdl : s.descs.length = s0.descs.length := hJ.dl
    have htin : s.tiny := hJ.tin
    have hres : finAllF 60 s0 = finAllF (60 - i) s := hJ.res
    have hw := wrap_id (x := (i : Int) + 1) (by omega)
    have t1 := rowsH_take s.heads
    have t2 := rowsD_take 70 s.descs
    rw [hhl] at t1
    rw [hdl] at t2
    obtain ⟨hl, hhe⟩ : ∃ l, heldL s = l := ⟨_, rfl⟩
    have hheld := implHeld_ok s hl hhe htin.small
    unfold StoreD.cells at hheld
    rcases Nat.lt_or_ge i 60 with hlt | hge
    · have hlt2 : (i : Int) < 60 := by omega
      cases hl with
      | nil =>
        rw [finAll_nil hhe] at hres
        rw [hres, if_pos rfl] at hr
        subst hr
        have hz0 : (((0 : Nat) : Int) == 0) = true := rfl
        have F := And.intro @rowsH_len (And.intro @rowsD_len (And.intro @rowsN_len (And.intro @rowsH_pur (And.intro @rowsD_pur (And.intro hhl (And.intro hdl (And.intro t1 (And.intro t2 (And.intro hlt2 (And.intro hz0 @Nat.le_refl))))))))))
        repeat' first
          | refine wSq fun _ hK => ?_
          | refine wRg ?_
          | refine wDr ?_
          | refine VWP_block ?_
          | refine VWP_skip ?_
          | refine VWP_exit ?_
          | refine VWP_ret ?_
          | (refine hK _ ?_; clear hK)
          | (clear hK; refine hK _ ?_; clear hK)
          | (clear hK; clear hK; refine hK _ ?_; clear hK)
          | (clear hK; clear hK; clear hK; refine hK _ ?_; clear hK)
          | (simp only [wHb, reduceCtorEq] at hb <;> try (exfalso; omega))
          | refine wCd (fun hb => ?_) fun hb => ?_
          | refine wCa (c := by first | exact hheld) (k := ?_)
          | simp only [go_sem, Nat.reduceLT, Nat.reduceLeDiff, Nat.reduceEqDiff, Nat.reduceAdd, Nat.reduceMul, Nat.reduceSub, reduceCtorEq, F]
          | simp (disch := omega) only [decide_eq_true_eq, if_pos, if_neg, wrap_id, le_maxLen, and_true, true_and, if_true, ite_true]
          | refine wGd (fun hb => ?_) fun hb => ?_
        refine ret_mk (vs := _) (acc := _) (by simp only [go_sem, Nat.reduceLT, Nat.reduceLeDiff, Nat.reduceEqDiff, Nat.reduceAdd, Nat.reduceMul, Nat.reduceSub, reduceCtorEq, vres]; rfl) (by simp only [go_sem, Nat.reduceLT, Nat.reduceLeDiff, Nat.reduceEqDiff, Nat.reduceAdd, Nat.reduceMul, Nat.reduceSub, reduceCtorEq, wrap, exV, exAs, exA, exCs, exC, rowsH_len, rowsD_len, hhl, hdl, t1, t2, Nat.le_refl]; rfl) (by simp) (by simp) (by simp [rowsH_pur, rowsD_pur])
      | cons o rest =>
        have hJ2 := allJ_step hJ hlt hhe
        obtain ⟨k, hd, hS, rfl, hh, hdo, hst, hsk⟩ := heldL_cons hhe
        rw [hdo] at hJ2
        have hI := stack_help hst
        obtain ⟨q, hq⟩ : ∃ q, finF 2000 s [⟨hd.desc, 0, 0⟩] = q := ⟨_, rfl⟩
        have hf := finish_ok s [⟨hd.desc, 0, 0⟩] 2000 hI htin (by omega) (by omega) (by simp) hsk q hq
        rw [hq] at hJ2
        rw [hhl, hdl] at hf
        have hr0 : rowsF [(⟨hd.desc, 0, 0⟩ : FrameD)] = [[.int .i64 hd.desc, .int .i64 0, .int .i64 0]] := rfl
        have hpf := rowsF_pur [(⟨hd.desc, 0, 0⟩ : FrameD)]
        rw [hr0] at hf hpf
        have hk0 : (0 : Int) ≤ (k : Nat) := by omega
        have hkl : k < s0.heads.length := by rw [← hhl]; exact (List.getElem?_eq_some_iff.1 hh).1
        have hre := rowsH_at hh
        have hrn := rowsN_cons (k : Int) rest
        have hne : (((rest.length + 1 : Nat) : Int) == 0) = false := by simp; omega
        have hne2 : (((k : Int) :: rest).length) = rest.length + 1 := rfl
        have hz : 0 < rest.length + 1 := by omega
        have F := And.intro @rowsH_len (And.intro @rowsD_len (And.intro @rowsN_len (And.intro @rowsH_pur (And.intro @rowsD_pur (And.intro hhl (And.intro hdl (And.intro t1 (And.intro t2 (And.intro hlt2 (And.intro hk0 (And.intro hkl (And.intro hre (And.intro hrn (And.intro hne (And.intro hne2 (And.intro hz (And.intro hpf @Nat.le_refl)))))))))))))))))
        repeat' first
          | refine wSq fun _ hK => ?_
          | refine wRg ?_
          | refine VWP_cls hT hM (id := 9) 10 [[0, 1, 2, 3, 4, 5, 6, 7, 8, 9, 10]] (by kernel_rfl) ?_
          | refine And.intro ?_ ?_
          | exact trivial
          | refine wDr ?_
          | refine VWP_block ?_
          | refine VWP_skip ?_
          | refine VWP_exit ?_
          | refine VWP_ret ?_
          | (refine hK _ ?_; clear hK)
          | (clear hK; refine hK _ ?_; clear hK)
          | (clear hK; clear hK; refine hK _ ?_; clear hK)
          | (clear hK; clear hK; clear hK; refine hK _ ?_; clear hK)
          | (simp only [wHb, reduceCtorEq] at hb <;> try (exfalso; omega))
          | refine wCdx (fun hb => ?_) fun hb => ?_
          | refine wCax (c := by first | exact hheld) (k := ?_)
          | refine wOwx [4, 2, 3] (c := by exact hf) (k := ?_)
          | simp only [go_sem, Nat.reduceLT, Nat.reduceLeDiff, Nat.reduceEqDiff, Nat.reduceAdd, Nat.reduceMul, Nat.reduceSub, reduceCtorEq, Int.reduceBEq, Int.reduceBNe, Int.reduceLT, Int.reduceLE, Int.reduceAdd, Int.reduceToNat, F]
          | simp (disch := omega) only [decide_eq_true_eq, if_pos, if_neg, wrap_id, le_maxLen, and_true, true_and, if_true, ite_true]
          | refine wGdx (fun hb => ?_) fun hb => ?_
        exact nextN [] rfl [0, 1, 710, 711, 4] (i + 1, q.1) rfl (by decide) (by decide) hJ2 (by simp only; omega) (by simp [updV, tmL, renV, renA, renC, hw]) (by simp [updH, hpL, renH_at, renE, renC, rowsH_pur, rowsD_pur])
    · obtain rfl : i = 60 := by omega
      have hge2 : ¬ (((60 : Nat) : Int) < 60) := by omega
      have hres2 : finAllF 60 s0 = (s, hl.isEmpty) := by rw [hres, ← hhe]; rfl
      rw [hres2] at hr
      cases hl with
      | nil =>
        rw [if_pos (show (s, ([] : List Int).isEmpty).2 = true from rfl)] at hr
        subst hr
        have hz0 : ¬ (0 : Int) < ((0 : Nat) : Int) := by omega
        have F := And.intro @rowsH_len (And.intro @rowsD_len (And.intro @rowsN_len (And.intro @rowsH_pur (And.intro @rowsD_pur (And.intro hhl (And.intro hdl (And.intro t1 (And.intro t2 (And.intro hge2 (And.intro hz0 @Nat.le_refl))))))))))
        repeat' first
          | refine wSq fun _ hK => ?_
          | refine wRg ?_
          | refine wDr ?_
          | refine VWP_block ?_
          | refine VWP_skip ?_
          | refine VWP_exit ?_
          | refine VWP_ret ?_
          | (refine hK _ ?_; clear hK)
          | (clear hK; refine hK _ ?_; clear hK)
          | (clear hK; clear hK; refine hK _ ?_; clear hK)
          | (clear hK; clear hK; clear hK; refine hK _ ?_; clear hK)
          | (simp only [wHb, reduceCtorEq] at hb <;> try (exfalso; omega))
          | refine wCd (fun hb => ?_) fun hb => ?_
          | refine wCa (c := by first | exact hheld) (k := ?_)
          | simp only [go_sem, Nat.reduceLT, Nat.reduceLeDiff, Nat.reduceEqDiff, Nat.reduceAdd, Nat.reduceMul, Nat.reduceSub, reduceCtorEq, F]
          | simp (disch := omega) only [decide_eq_true_eq, if_pos, if_neg, wrap_id, le_maxLen, and_true, true_and, if_true, ite_true]
          | refine wGd (fun hb => ?_) fun hb => ?_
        refine ret_mk (vs := _) (acc := _) (by simp only [go_sem, Nat.reduceLT, Nat.reduceLeDiff, Nat.reduceEqDiff, Nat.reduceAdd, Nat.reduceMul, Nat.reduceSub, reduceCtorEq, vres]; rfl) (by simp only [go_sem, Nat.reduceLT, Nat.reduceLeDiff, Nat.reduceEqDiff, Nat.reduceAdd, Nat.reduceMul, Nat.reduceSub, reduceCtorEq, wrap, exV, exAs, exA, exCs, exC, rowsH_len, rowsD_len, hhl, hdl, t1, t2, Nat.le_refl]; rfl) (by simp) (by simp) (by simp [rowsH_pur, rowsD_pur])
      | cons o rest =>
        rw [if_neg (fun h => nomatch h)] at hr
        subst hr
        have hz0 : (0 : Int) < (((o :: rest).length : Nat) : Int) := by simp only [List.length_cons]; omega
        have hz1 : (0 : Int) < ((rest.length + 1 : Nat) : Int) := by omega
        have F := And.intro @rowsH_len (And.intro @rowsD_len (And.intro @rowsN_len (And.intro @rowsH_pur (And.intro @rowsD_pur (And.intro @rowsH_take (And.intro @rowsD_take (And.intro hhl (And.intro hdl (And.intro t1 (And.intro t2 (And.intro hge2 (And.intro hz0 (And.intro hz1 @Nat.le_refl)))))))))))))
        repeat' first
          | refine wSq fun _ hK => ?_
          | refine wRg ?_
          | refine wDr ?_
          | refine VWP_block ?_
          | refine VWP_skip ?_
          | refine VWP_exit ?_
          | refine VWP_ret ?_
          | (refine hK _ ?_; clear hK)
          | (clear hK; refine hK _ ?_; clear hK)
          | (clear hK; clear hK; refine hK _ ?_; clear hK)
          | (clear hK; clear hK; clear hK; refine hK _ ?_; clear hK)
          | (simp only [wHb, reduceCtorEq] at hb <;> try (exfalso; omega))
          | refine wCd (fun hb => ?_) fun hb => ?_
          | refine wCa (c := by first | exact hheld | exact ho) (k := ?_)
          | simp only [go_sem, Nat.reduceLT, Nat.reduceLeDiff, Nat.reduceEqDiff, Nat.reduceAdd, Nat.reduceMul, Nat.reduceSub, reduceCtorEq, F]
          | simp (disch := omega) only [decide_eq_true_eq, if_pos, if_neg, wrap_id, le_maxLen, and_true, true_and, if_true, ite_true]
          | refine wGd (fun hb => ?_) fun hb => ?_
        refine ret_mk (vs := _) (acc := _) (by simp only [go_sem, Nat.reduceLT, Nat.reduceLeDiff, Nat.reduceEqDiff, Nat.reduceAdd, Nat.reduceMul, Nat.reduceSub, reduceCtorEq, vres]; rfl) (by simp only [go_sem, Nat.reduceLT, Nat.reduceLeDiff, Nat.reduceEqDiff, Nat.reduceAdd, Nat.reduceMul, Nat.reduceSub, reduceCtorEq, wrap, exV, exAs, exA, exCs, exC, rowsH_len, rowsD_len, rowsH_take, rowsD_take, Nat.le_refl]; rfl) (by simp) (by simp) (by simp [rowsH_pur, rowsD_pur])
theorem finR_at {s : StoreD} {f : FrameD} (h : stackB s [f] = true) : finishR s [f] 2000 = ((finF 2000 s [f]).1, (((finF 2000 s [f]).2.2 : Nat) : Int), decide ((finF 2000 s [f]).2.1 = [])) := by
  unfold finishR
  rw [if_pos (by simp [finOk, h, inB])]
  rfl
end Go.Proofs.Ytchkbgekmoileaa

/- A stack that is helped alone is empty soon; all are finished (plain). -/
namespace Go.Proofs.Ytchkbgekmoileaa
open Go Go.RowKit
set_option linter.unusedVariables false
set_option linter.unusedSimpArgs false
set_option maxRecDepth 100000
set_option maxHeartbeats 4000000
attribute [local irreducible] VWP vops vdraw contV contD CallK Guard GuardV NextL Puts Runs RetOK RetQ RetO RetQO thenQ blockQ

/-- What helping until a stack is empty does. -/
structure FinD (s : StoreD) (fs : List FrameD) (r : StoreD × List FrameD × Nat) : Prop where
  nil : r.2.1 = []
  st : StoreP r.1
  pre : PreP r.1
  hl : r.1.heads.length = s.heads.length
  dl : r.1.descs.length = s.descs.length
  ds : ∀ (k : Nat) (d : DescS), s.descs[k]? = some d → ∃ st : Int, r.1.descs[k]? = some ⟨d.owner, st, d.entries⟩ ∧ (d.status ≠ 0 → st = d.status)
  live : ∀ k : Nat, LiveP r.1 k → LiveP s k ∧ (k : Int) ∉ fs.map (·.desc)
  dec : ∀ (k : Nat) (d : DescS), (k : Int) ∈ fs.map (·.desc) → r.1.descs[k]? = some d → d.status ≠ 0
theorem finF_done : ∀ (m : Nat) {s : StoreD} {fs : List FrameD}, HInv s fs → potF s fs ≤ m → FinD s fs (finF m s fs)
  | 0, s, fs, h, hp => by
    rcases List.eq_nil_or_concat fs with rfl | ⟨low, f, rfl⟩
    · exact ⟨rfl, h.st, h.pre, rfl, rfl, fun k d hd => ⟨d.status, hd, fun _ => rfl⟩, fun k hk => ⟨hk, by simp⟩, fun k d hk => by simp at hk⟩
    · have := (helpF_step h (by simp)).pot
      omega
  | m + 1, s, fs, h, hp => by
    rw [finF]
    split
    · rename_i hn
      subst hn
      exact ⟨rfl, h.st, h.pre, rfl, rfl, fun k d hd => ⟨d.status, hd, fun _ => rfl⟩, fun k hk => ⟨hk, by simp⟩, fun k d hk => by simp at hk⟩
    · rename_i hn
      have h1 := helpF_step h hn
      have h2 := finF_done m h1.inv (by have := h1.pot; omega)
      refine ⟨h2.nil, h2.st, h2.pre, by rw [← h1.hl]; exact h2.hl, by rw [← h1.dl]; exact h2.dl, fun k d hd => ?_, fun k hk => ?_, fun k d hk hd => ?_⟩
      · obtain ⟨st, q1, q2⟩ := h1.ds k d hd
        obtain ⟨st', q3, q4⟩ := h2.ds k _ q1
        exact ⟨st', q3, fun c => by have := q2 c; rw [q4 (by simp only; omega)]; exact this⟩
      · obtain ⟨q1, q2⟩ := h2.live k hk
        exact h1.live k q2 q1
      · by_cases c : (k : Int) ∈ (helpF s fs).2.map (·.desc)
        · exact h2.dec k d c hd
        · have hkl : k < s.descs.length := by
            have := (List.getElem?_eq_some_iff.1 hd).1
            rw [h2.dl, h1.dl] at this
            exact this
          obtain ⟨d0, hd0⟩ : ∃ x, s.descs[k]? = some x := ⟨_, List.getElem?_eq_getElem hkl⟩
          obtain ⟨st, q1, q2⟩ := h1.ds k d0 hd0
          have h0 := h1.dec k _ hk c q1
          obtain ⟨st', q3, q4⟩ := h2.ds k _ q1
          rw [hd] at q3
          cases q3
          simp only at h0 ⊢
          rw [q4 h0]
          exact h0
theorem finF_one {m : Nat} {s : StoreD} {fs : List FrameD} (hm : 0 < m) (hn : fs ≠ []) : 1 ≤ (finF m s fs).2.2 := by
  cases m with
  | zero => omega
  | succ m => rw [finF, if_neg hn]; simp
theorem finF_le : ∀ (m : Nat) (s : StoreD) (fs : List FrameD), (finF m s fs).2.2 ≤ m
  | 0, s, fs => Nat.le_refl _
  | m + 1, s, fs => by
    rw [finF]
    split
    · simp
    · have := finF_le m (helpF s fs).1 (helpF s fs).2
      simp only
      omega

/-- A single new frame. -/
theorem hinv_new {s : StoreD} (hS : StoreP s) (hP : PreP s) {k : Nat} (hk : k < s.descs.length) : HInv s [⟨(k : Nat), 0, 0⟩] := by
  obtain ⟨d, hd⟩ : ∃ d, s.descs[k]? = some d := ⟨_, List.getElem?_eq_getElem hk⟩
  have hfd := hS.2.2.2.1 d (List.mem_of_getElem? hd)
  refine ⟨hS, hP, trivial, by simp, fun f hf => ?_, fun f hf => ?_⟩
  · simp only [List.mem_cons, List.not_mem_nil, or_false] at hf
    subst hf
    exact frm_zero hd (by omega) (by omega) hfd.1.2.2.2.2.1
  · simp only [List.getLast?_singleton, Option.some.injEq] at hf
    subst hf
    exact ⟨frP_zero (f := ⟨(k : Nat), 0, 0⟩) (by omega) (by omega) (by omega) (by omega), by simp⟩
theorem liveN_le {s : StoreD} {fs : List FrameD} : liveN s fs ≤ s.descs.length := by
  unfold liveN
  have := List.length_filter_le (fun k => bP (LiveP s k ∧ (k : Int) ∉ fs.map (·.desc))) (List.range s.descs.length)
  simpa using this
theorem pot_new {s : StoreD} (hS : StoreP s) {k : Nat} (hk : k < s.descs.length) : potF s [⟨(k : Nat), 0, 0⟩] ≤ 30 * s.descs.length + 14 := by
  obtain ⟨d, hd⟩ : ∃ d, s.descs[k]? = some d := ⟨_, List.getElem?_eq_getElem hk⟩
  have hfd := hS.2.2.2.1 d (List.mem_of_getElem? hd)
  unfold potF
  simp only [List.getLast?_singleton, List.length_cons, List.length_nil]
  rw [cost_at (k := k) rfl hd]
  have h1 := liveN_le (s := s) (fs := [⟨(k : Nat), 0, 0⟩])
  have h2 := hfd.1.2.2.2.2.2
  simp
  omega

theorem held_nil {s : StoreD} (hS : StoreP s) (h : heldL s = []) {o : Nat} {x : HeadD} (hx : s.heads[o]? = some x) : x.desc = -1 := by
  have hol := (List.getElem?_eq_some_iff.1 hx).1
  rw [heldL, if_pos (bP_true hS)] at h
  unfold heldN at h
  simp only [List.map_eq_nil_iff, List.filter_eq_nil_iff, List.mem_range] at h
  have := h o hol
  have hd := head_desc hS hx
  simp only [liesB, hx, decide_eq_true_eq] at this
  omega
/-- What finishing all does. -/
structure AllD (s r : StoreD) : Prop where
  st : StoreP r
  pre : PreP r
  held : heldL r = []
  hl : r.heads.length = s.heads.length
  dl : r.descs.length = s.descs.length
  ds : ∀ (k : Nat) (d : DescS), s.descs[k]? = some d → ∃ st : Int, r.descs[k]? = some ⟨d.owner, st, d.entries⟩ ∧ (d.status ≠ 0 → st = d.status)
theorem finAll_done : ∀ (m : Nat) {s : StoreD}, StoreP s → PreP s → liveN s [] ≤ m → (finAllF m s).2 = true ∧ AllD s (finAllF m s).1
  | m, s, hS, hP, hm => by
    cases hh : heldL s with
    | nil =>
      rw [finAll_nil hh]
      exact ⟨rfl, hS, hP, hh, rfl, rfl, fun k d hd => ⟨d.status, hd, fun _ => rfl⟩⟩
    | cons o rest =>
      obtain ⟨ko, hd, _, ho, hx, hdo, _, _⟩ := heldL_cons hh
      have hlt := head_desc hS hx
      have hge : 0 ≤ hd.desc := by
        have hm : o ∈ heldL s := by rw [hh]; exact List.mem_cons_self ..
        rw [heldL, if_pos (bP_true hS)] at hm
        unfold heldN at hm
        simp only [List.mem_map, List.mem_filter, List.mem_range] at hm
        obtain ⟨k, ⟨hk, hl⟩, hko⟩ := hm
        have : k = ko := by omega
        subst this
        simpa [liesB, hx] using hl
      obtain ⟨k, hk⟩ : ∃ k : Nat, hd.desc = k := ⟨hd.desc.toNat, by omega⟩
      have hkl : k < s.descs.length := by omega
      have hlive : LiveP s k := ⟨ko, hd, hx, hk⟩
      have hI := hinv_new hS hP hkl
      have hp := pot_new hS hkl
      have h60 := hS.2.2.1
      have hf := finF_done 2000 hI (by omega)
      cases m with
      | zero =>
        have : 0 < liveN s [] := by
          unfold liveN
          refine List.length_pos_of_mem (a := k) (List.mem_filter.2 ⟨by simpa using hkl, ?_⟩)
          rw [bP_iff]
          exact ⟨hlive, by simp⟩
        omega
      | succ m =>
        rw [finAll_step hh, hdo, hk]
        have hlt : liveN (finF 2000 s [⟨(k : Nat), 0, 0⟩]).1 [] < liveN s [] := by
          unfold liveN
          rw [hf.dl]
          refine filter_lt (x := k) (fun y _ hy => ?_) (by simpa using hkl) ?_ ?_
          · rw [bP_iff] at hy ⊢
            exact ⟨(hf.live y hy.1).1, by simp⟩
          · rw [bP_iff]; exact ⟨hlive, by simp⟩
          · refine bP_false fun hh => ?_
            exact (hf.live k hh.1).2 (by simp)
        obtain ⟨r1, r2⟩ := finAll_done m hf.st hf.pre (by omega)
        refine ⟨r1, r2.st, r2.pre, r2.held, by rw [← hf.hl]; exact r2.hl, by rw [← hf.dl]; exact r2.dl, fun k d hd => ?_⟩
        obtain ⟨st, q1, q2⟩ := hf.ds k d hd
        obtain ⟨st', q3, q4⟩ := r2.ds k _ q1
        exact ⟨st', q3, fun c => by have := q2 c; rw [q4 (by simp only; omega)]; exact this⟩
end Go.Proofs.Ytchkbgekmoileaa

/- The program's Finish. -/
namespace Go.Proofs.Ytchkbgekmoileaa
open Go Go.RowKit
set_option linter.unusedVariables false
set_option linter.unusedSimpArgs false
set_option maxRecDepth 100000
set_option maxHeartbeats 4000000
attribute [local irreducible] VWP vops vdraw contV contD CallK Guard GuardV NextL Puts Runs RetOK RetQ RetO RetQO thenQ blockQ
attribute [local irreducible] NextN

theorem finF_stay : ∀ (m : Nat) {s : StoreD} {fs : List FrameD}, stuckB s fs = true → finF m s fs = (s, fs, if fs = [] then 0 else m)
  | 0, s, fs, h => by simp [finF]
  | m + 1, s, fs, h => by
    by_cases hf : fs = []
    · subst hf; simp [finF]
    · rw [finF_step m hf, stuck_help h, finF_stay m h]
      simp [hf]
theorem finishStay_ok (s : StoreD) (fs : List FrameD) (m : Nat) (hi : HelpI s fs) (hs : s.tiny) (hm2 : m ≤ 1048576) (hst : stuckB s fs = true) (r : StoreD × List FrameD × Nat) (hr : finF m s fs = r) :
    SatO Try.prog 27 [.bp 0 0, .fr 50 (rowsF fs), .int .i64 m] [.box [.rf 1 s.heads.length, .rf 2 s.descs.length], .root 36 (rowsH s.heads), .root 40 (rowsD 70 s.descs)]
      (.tup [.int .i64 r.2.2, .bool (decide (r.2.1 = []))]) [.box [.rf 1 s.heads.length, .rf 2 s.descs.length], .root 36 (rowsH s.heads), .root 40 (rowsD 70 s.descs)] := by
  rw [finF_stay m hst] at hr
  have hlen := hi.len
  refine satO_of_body hT Try.func27 (by kernel_rfl) rfl (rs := [.tmp 6, .tmp 7]) rfl (n := 26) rfl (by simp) rfl (m := 3) rfl ⟨⟨rfl, rfl⟩, ⟨rfl, rowsH_pur _⟩, ⟨rfl, rowsD_pur _ _⟩, by simp [keptL]⟩ fun E hE => ?_
  unfold St.initO
  have F := (Eq.refl 0)
  repeat' first
    | refine wSq fun _ hK => ?_
    | refine wRg ?_
    | refine wDr ?_
    | refine VWP_block ?_
    | refine VWP_skip ?_
    | refine VWP_exit ?_
    | refine VWP_ret ?_
    | (refine hK _ ?_; clear hK)
    | (clear hK; refine hK _ ?_; clear hK)
    | (clear hK; clear hK; refine hK _ ?_; clear hK)
    | (clear hK; clear hK; clear hK; refine hK _ ?_; clear hK)
    | (simp only [wHb, reduceCtorEq] at hb <;> try (exfalso; omega))
    | refine wCd (fun hb => ?_) fun hb => ?_
    | simp only [go_sem, Nat.reduceLT, Nat.reduceLeDiff, Nat.reduceEqDiff, Nat.reduceAdd, Nat.reduceMul, Nat.reduceSub, reduceCtorEq, F]
    | simp (disch := omega) only [decide_eq_true_eq, if_pos, if_neg, wrap_id, le_maxLen, and_true, true_and, if_true, ite_true]
    | refine wGd (fun hb => ?_) fun hb => ?_
  refine VWP_loopN hE (X := Nat) (fun i => if i = 0 then [(0, .bp 0 0), (1, .fr 50 (rowsF fs)), (2, .int .i64 m), (8, .int .i64 i)] else [(0, .bp 0 0), (1, .rf 3 fs.length), (2, .int .i64 m), (8, .int .i64 i)]) (fun i => if i = 0 then [(0, .box [.rf 1 s.heads.length, .rf 2 s.descs.length]), (1, .root 36 (rowsH s.heads)), (2, .root 40 (rowsD 70 s.descs))] else [(0, .box [.rf 1 s.heads.length, .rf 2 s.descs.length]), (1, .root 36 (rowsH s.heads)), (2, .root 40 (rowsD 70 s.descs)), (3, .root 50 (rowsF fs))]) (fun i => m - i)
    (fun i => i ≤ m ∧ (fs = [] → i = 0)) [0, 1, 2, 3] 0 ⟨by simp, fun _ => rfl⟩ (by decide) (by decide) (by simp [updV, renV, renA, renC]) (by simp [updH, HpE, renH_at, renE, renC, rowsH_pur, rowsD_pur]) ?_
  rintro i ⟨hle, hz⟩
  have hw := wrap_id (x := (i : Int) + 1) (by omega)
  have hc := helpStuck_ok s fs hi hs.small hst
  have hbn : ((fs.length : Int) == 0) = decide (fs = []) := by
    cases fs with
    | nil => rfl
    | cons f fs => simp; omega
  by_cases hgo : fs ≠ [] ∧ i < m
  · obtain ⟨hne1, him⟩ := hgo
    have hpos : 0 < fs.length := List.length_pos_iff.2 hne1
    have hm0 : (i : Int) < (m : Int) := by omega
    have hp0 : (0 : Int) < (fs.length : Int) := by omega
    rcases Nat.eq_zero_or_pos i with hi0 | hi0
    · rw [if_pos hi0, if_pos hi0]
      have F := And.intro @rowsF_len (And.intro @rowsH_len (And.intro @rowsD_len (And.intro @rowsH_pur (And.intro @rowsD_pur (And.intro hp0 hm0)))))
      repeat' first
        | refine wSq fun _ hK => ?_
        | refine wRg ?_
        | refine wDr ?_
        | refine VWP_block ?_
        | refine VWP_skip ?_
        | refine VWP_exit ?_
        | refine VWP_ret ?_
        | (refine hK _ ?_; clear hK)
        | (clear hK; refine hK _ ?_; clear hK)
        | (clear hK; clear hK; refine hK _ ?_; clear hK)
        | (clear hK; clear hK; clear hK; refine hK _ ?_; clear hK)
        | (simp only [wHb, reduceCtorEq] at hb <;> try (exfalso; omega))
        | refine wCd (fun hb => ?_) fun hb => ?_
        | refine wOw [0, 1, 2] (c := by exact hc) (k := ?_)
        | simp only [go_sem, Nat.reduceLT, Nat.reduceLeDiff, Nat.reduceEqDiff, Nat.reduceAdd, Nat.reduceMul, Nat.reduceSub, reduceCtorEq, F]
        | simp (disch := omega) only [decide_eq_true_eq, if_pos, if_neg, wrap_id, le_maxLen, and_true, true_and, if_true, ite_true]
        | refine wGd (fun hb => ?_) fun hb => ?_
      all_goals refine nextN [] rfl [0, 1, 2, 4] (i + 1) rfl (by decide) (by decide) ⟨him, fun h => absurd h hne1⟩ (by omega) (by rw [if_neg (Nat.succ_ne_zero _)]; simp [updV, tmL, renV, renA, renC, hw]) (by rw [if_neg (Nat.succ_ne_zero _)]; simp [updH, hpL, renH_at, renE, renC, rowsH_pur, rowsD_pur, rowsF_pur])
    · rw [if_neg (by omega), if_neg (by omega)]
      have F := And.intro @rowsF_len (And.intro @rowsF_take (And.intro @rowsF_pur (And.intro @rowsH_len (And.intro @rowsD_len (And.intro @rowsH_pur (And.intro @rowsD_pur (And.intro hp0 hm0)))))))
      repeat' first
        | refine wSq fun _ hK => ?_
        | refine wRg ?_
        | refine wDr ?_
        | refine VWP_block ?_
        | refine VWP_skip ?_
        | refine VWP_exit ?_
        | refine VWP_ret ?_
        | (refine hK _ ?_; clear hK)
        | (clear hK; refine hK _ ?_; clear hK)
        | (clear hK; clear hK; refine hK _ ?_; clear hK)
        | (clear hK; clear hK; clear hK; refine hK _ ?_; clear hK)
        | (simp only [wHb, reduceCtorEq] at hb <;> try (exfalso; omega))
        | refine wCd (fun hb => ?_) fun hb => ?_
        | refine wOw [0, 1, 2] (c := by exact hc) (k := ?_)
        | simp only [go_sem, Nat.reduceLT, Nat.reduceLeDiff, Nat.reduceEqDiff, Nat.reduceAdd, Nat.reduceMul, Nat.reduceSub, reduceCtorEq, F]
        | simp (disch := omega) only [decide_eq_true_eq, if_pos, if_neg, wrap_id, le_maxLen, and_true, true_and, if_true, ite_true]
        | refine wGd (fun hb => ?_) fun hb => ?_
      all_goals refine nextN [] rfl [0, 1, 2, 4] (i + 1) rfl (by decide) (by decide) ⟨him, fun h => absurd h hne1⟩ (by omega) (by rw [if_neg (Nat.succ_ne_zero _)]; simp [updV, tmL, renV, renA, renC, hw]) (by rw [if_neg (Nat.succ_ne_zero _)]; simp [updH, hpL, renH_at, renE, renC, rowsH_pur, rowsD_pur, rowsF_pur])
  · have hgo2 : 0 < (fs.length : Int) → ¬ (i : Int) < (m : Int) := fun h hh => hgo ⟨fun h2 => by subst h2; simp at h, by omega⟩
    have hri : (if fs = [] then 0 else m) = i := by
      split
      · rename_i h; exact (hz h).symm
      · rename_i h
        have : ¬ i < m := fun hh => hgo ⟨h, hh⟩
        omega
    rw [hri] at hr
    subst hr
    rcases Nat.eq_zero_or_pos i with hi0 | hi0
    · rw [if_pos hi0, if_pos hi0]
      have F := And.intro @rowsF_len hbn
      repeat' first
        | refine wSq fun _ hK => ?_
        | refine wRg ?_
        | refine wDr ?_
        | refine VWP_block ?_
        | refine VWP_skip ?_
        | refine VWP_exit ?_
        | refine VWP_ret ?_
        | (refine hK _ ?_; clear hK)
        | (clear hK; refine hK _ ?_; clear hK)
        | (clear hK; clear hK; refine hK _ ?_; clear hK)
        | (clear hK; clear hK; clear hK; refine hK _ ?_; clear hK)
        | (simp only [wHb, reduceCtorEq] at hb <;> try (exfalso; omega))
        | refine wCd (fun hb => ?_) fun hb => ?_
        | simp only [go_sem, Nat.reduceLT, Nat.reduceLeDiff, Nat.reduceEqDiff, Nat.reduceAdd, Nat.reduceMul, Nat.reduceSub, reduceCtorEq, F]
        | simp (disch := omega) only [decide_eq_true_eq, if_pos, if_neg, wrap_id, le_maxLen, and_true, true_and, if_true, ite_true]
        | refine wGd (fun hb => ?_) fun hb => ?_
      all_goals first
        | (exfalso; simp_all; done)
        | (exfalso; have := hgo2 (by assumption); simp_all; done)
        | skip
      all_goals refine retO_mk [] rfl [.box [.rf 1 s.heads.length, .rf 2 s.descs.length], .root 36 (rowsH s.heads), .root 40 (rowsD 70 s.descs)] rfl (by simp [keepsL, updH, hpL]) (acc1 := _) (by simp only [go_sem, Nat.reduceLT, Nat.reduceLeDiff, Nat.reduceEqDiff, Nat.reduceAdd, Nat.reduceMul, Nat.reduceSub, reduceCtorEq, exEs, exOCs, exOC]; try rfl) (by simp only [go_sem, Nat.reduceLT, Nat.reduceLeDiff, Nat.reduceEqDiff, Nat.reduceAdd, Nat.reduceMul, Nat.reduceSub, reduceCtorEq, vres]; rfl) (acc := _) (by simp only [go_sem, Nat.reduceLT, Nat.reduceLeDiff, Nat.reduceEqDiff, Nat.reduceAdd, Nat.reduceMul, Nat.reduceSub, reduceCtorEq, wrap, exOV, exOAs, exOA, exOC, hbn]; try rfl) (by simp) (by simp [rootOf])
    · rw [if_neg (by omega), if_neg (by omega)]
      have F := And.intro @rowsF_len hbn
      repeat' first
        | refine wSq fun _ hK => ?_
        | refine wRg ?_
        | refine wDr ?_
        | refine VWP_block ?_
        | refine VWP_skip ?_
        | refine VWP_exit ?_
        | refine VWP_ret ?_
        | (refine hK _ ?_; clear hK)
        | (clear hK; refine hK _ ?_; clear hK)
        | (clear hK; clear hK; refine hK _ ?_; clear hK)
        | (clear hK; clear hK; clear hK; refine hK _ ?_; clear hK)
        | (simp only [wHb, reduceCtorEq] at hb <;> try (exfalso; omega))
        | refine wCd (fun hb => ?_) fun hb => ?_
        | simp only [go_sem, Nat.reduceLT, Nat.reduceLeDiff, Nat.reduceEqDiff, Nat.reduceAdd, Nat.reduceMul, Nat.reduceSub, reduceCtorEq, F]
        | simp (disch := omega) only [decide_eq_true_eq, if_pos, if_neg, wrap_id, le_maxLen, and_true, true_and, if_true, ite_true]
        | refine wGd (fun hb => ?_) fun hb => ?_
      all_goals first
        | (exfalso; simp_all; done)
        | (exfalso; have := hgo2 (by assumption); simp_all; done)
        | skip
      all_goals refine retO_mk [] rfl [.box [.rf 1 s.heads.length, .rf 2 s.descs.length], .root 36 (rowsH s.heads), .root 40 (rowsD 70 s.descs)] rfl (by simp [keepsL, updH, hpL]) (acc1 := _) (by simp only [go_sem, Nat.reduceLT, Nat.reduceLeDiff, Nat.reduceEqDiff, Nat.reduceAdd, Nat.reduceMul, Nat.reduceSub, reduceCtorEq, exEs, exOCs, exOC]; try rfl) (by simp only [go_sem, Nat.reduceLT, Nat.reduceLeDiff, Nat.reduceEqDiff, Nat.reduceAdd, Nat.reduceMul, Nat.reduceSub, reduceCtorEq, vres]; rfl) (acc := _) (by simp only [go_sem, Nat.reduceLT, Nat.reduceLeDiff, Nat.reduceEqDiff, Nat.reduceAdd, Nat.reduceMul, Nat.reduceSub, reduceCtorEq, wrap, exOV, exOAs, exOA, exOC, hbn]; try rfl) (by simp) (by simp [rootOf])
theorem finishZero_ok (s : StoreD) (fs : List FrameD) (hi : HelpI s fs) (hs : s.tiny) (r : StoreD × List FrameD × Nat) (hr : finF 0 s fs = r) :
    SatO Try.prog 27 [.bp 0 0, .fr 50 (rowsF fs), .int .i64 ((0 : Nat) : Int)] [.box [.rf 1 s.heads.length, .rf 2 s.descs.length], .root 36 (rowsH s.heads), .root 40 (rowsD 70 s.descs)]
      (.tup [.int .i64 r.2.2, .bool (decide (r.2.1 = []))]) [.box [.rf 1 s.heads.length, .rf 2 s.descs.length], .root 36 (rowsH s.heads), .root 40 (rowsD 70 s.descs)] := by
  have hr2 : (s, fs, 0) = r := hr
  subst hr2
  have hlen := hi.len
  have hbn : ((fs.length : Int) == 0) = decide (fs = []) := by
    cases fs with
    | nil => rfl
    | cons f fs => simp; omega
  have hz : ¬ (0 : Int) < ((0 : Nat) : Int) := by omega
  have hz2 : ((0 : Nat) : Int) = 0 := rfl
  have hz3 : ¬ (0 : Int) < 0 := by omega
  refine satO_of_body hT Try.func27 (by kernel_rfl) rfl (rs := [.tmp 6, .tmp 7]) rfl (n := 26) rfl (by simp) rfl (m := 3) rfl ⟨⟨rfl, rfl⟩, ⟨rfl, rowsH_pur _⟩, ⟨rfl, rowsD_pur _ _⟩, by simp [keptL]⟩ fun E hE => ?_
  unfold St.initO
  have F := (Eq.refl 0)
  repeat' first
    | refine wSq fun _ hK => ?_
    | refine wRg ?_
    | refine wDr ?_
    | refine VWP_block ?_
    | refine VWP_skip ?_
    | refine VWP_exit ?_
    | refine VWP_ret ?_
    | (refine hK _ ?_; clear hK)
    | (clear hK; refine hK _ ?_; clear hK)
    | (clear hK; clear hK; refine hK _ ?_; clear hK)
    | (clear hK; clear hK; clear hK; refine hK _ ?_; clear hK)
    | (simp only [wHb, reduceCtorEq] at hb <;> try (exfalso; omega))
    | refine wCd (fun hb => ?_) fun hb => ?_
    | simp only [go_sem, Nat.reduceLT, Nat.reduceLeDiff, Nat.reduceEqDiff, Nat.reduceAdd, Nat.reduceMul, Nat.reduceSub, reduceCtorEq, F]
    | simp (disch := omega) only [decide_eq_true_eq, if_pos, if_neg, wrap_id, le_maxLen, and_true, true_and, if_true, ite_true]
    | refine wGd (fun hb => ?_) fun hb => ?_
  refine VWP_loopN hE (X := Unit) (fun _ => [(0, .bp 0 0), (1, .fr 50 (rowsF fs)), (2, .int .i64 ((0 : Nat) : Int)), (8, .int .i64 0)]) (fun _ => [(0, .box [.rf 1 s.heads.length, .rf 2 s.descs.length]), (1, .root 36 (rowsH s.heads)), (2, .root 40 (rowsD 70 s.descs))]) (fun _ => 0)
    (fun _ => True) [0, 1, 2] () trivial (by decide) (by decide) (by simp [updV, renV, renA, renC]) (by simp [updH, HpE, renH_at, renE, renC, rowsH_pur, rowsD_pur]) ?_
  rintro _ _
  have F := And.intro @rowsF_len (And.intro hbn (And.intro hz hz3))
  repeat' first
    | refine wSq fun _ hK => ?_
    | refine wRg ?_
    | refine wDr ?_
    | refine VWP_block ?_
    | refine VWP_skip ?_
    | refine VWP_exit ?_
    | refine VWP_ret ?_
    | (refine hK _ ?_; clear hK)
    | (clear hK; refine hK _ ?_; clear hK)
    | (clear hK; clear hK; refine hK _ ?_; clear hK)
    | (clear hK; clear hK; clear hK; refine hK _ ?_; clear hK)
    | (simp only [wHb, reduceCtorEq] at hb <;> try (exfalso; omega))
    | refine wCd (fun hb => ?_) fun hb => ?_
    | simp only [go_sem, Nat.reduceLT, Nat.reduceLeDiff, Nat.reduceEqDiff, Nat.reduceAdd, Nat.reduceMul, Nat.reduceSub, reduceCtorEq, F]
    | simp (disch := omega) only [decide_eq_true_eq, if_pos, if_neg, wrap_id, le_maxLen, and_true, true_and, if_true, ite_true]
    | refine wGd (fun hb => ?_) fun hb => ?_
  all_goals first
    | (exfalso; simp_all; done)
    | skip
  all_goals refine retO_mk [] rfl [.box [.rf 1 s.heads.length, .rf 2 s.descs.length], .root 36 (rowsH s.heads), .root 40 (rowsD 70 s.descs)] rfl (by simp [keepsL, updH, hpL]) (acc1 := _) (by simp only [go_sem, Nat.reduceLT, Nat.reduceLeDiff, Nat.reduceEqDiff, Nat.reduceAdd, Nat.reduceMul, Nat.reduceSub, reduceCtorEq, exEs, exOCs, exOC]; try rfl) (by simp only [go_sem, Nat.reduceLT, Nat.reduceLeDiff, Nat.reduceEqDiff, Nat.reduceAdd, Nat.reduceMul, Nat.reduceSub, reduceCtorEq, vres]; rfl) (acc := _) (by simp only [go_sem, Nat.reduceLT, Nat.reduceLeDiff, Nat.reduceEqDiff, Nat.reduceAdd, Nat.reduceMul, Nat.reduceSub, reduceCtorEq, wrap, exOV, exOAs, exOA, exOC, hbn]; try rfl) (by simp) (by simp [rootOf])
theorem implFinish_ok (s0 : StoreD) (fs0 : List FrameD) (m : Int) (hs : s0.tiny) (hl : fs0.length ≤ 1048576) (r : StoreD × Int × Bool) (hr : finishR s0 fs0 m = r) :
    SatP Try.prog 14 [.agg (s0.cells 36 40 70), .fr 50 (rowsF fs0), .int .i64 m]
      (.tup [.agg [.rf 0 s0.heads.length, .rf 1 s0.descs.length], .int .i64 r.2.1, .bool r.2.2]) [(36, rowsH r.1.heads), (40, rowsD 70 r.1.descs)] := by
  have hc := implStackOk_ok s0 fs0 hs.small hl
  have ho := ownStore_ok s0 hs.small
  have hin := in_ok m 0 2000
  refine satP_of_body hT Try.func14 (by kernel_rfl) rfl (rs := [.cell 6 27, .tmp 7, .tmp 8]) rfl (n := 33) rfl (by simp) rfl (by simp [rowsH_pur, rowsD_pur]) fun E hE => ?_
  unfold St.init
  unfold StoreD.cells at *
  rcases (Bool.eq_false_or_eq_true (finOk s0 fs0 m)).symm with hp | hp
  · rw [finishR, if_neg (by rw [hp]; exact fun h => nomatch h)] at hr
    subst hr
    have hp2 : stackB s0 fs0 = true → inB m 0 2000 = false := fun h => by simpa [finOk, h] using hp
    generalize stackB s0 fs0 = A at *
    generalize inB m 0 2000 = B at *
    have F := And.intro @rowsH_len (And.intro @rowsD_len (And.intro @rowsF_len (And.intro @rowsH_take @rowsD_take)))
    repeat' first
      | refine wSq fun _ hK => ?_
      | refine wRg ?_
      | refine wDr ?_
      | refine VWP_block ?_
      | refine VWP_skip ?_
      | refine VWP_exit ?_
      | refine VWP_ret ?_
      | (refine hK _ ?_; clear hK)
      | (clear hK; refine hK _ ?_; clear hK)
      | (clear hK; clear hK; refine hK _ ?_; clear hK)
      | (clear hK; clear hK; clear hK; refine hK _ ?_; clear hK)
      | (simp only [wHb, reduceCtorEq] at hb <;> try (exfalso; omega))
      | refine wCd (fun hb => ?_) fun hb => ?_
      | refine wCa (c := by first | exact hc | exact ho | exact hin) (k := ?_)
      | simp only [go_sem, Nat.reduceLT, Nat.reduceLeDiff, Nat.reduceEqDiff, Nat.reduceAdd, Nat.reduceMul, Nat.reduceSub, reduceCtorEq, F]
      | simp (disch := omega) only [decide_eq_true_eq, if_pos, if_neg, wrap_id, le_maxLen, and_true, true_and, if_true, ite_true]
      | refine wGd (fun hb => ?_) fun hb => ?_
    all_goals first
      | (exfalso; simp_all; done)
      | skip
    all_goals refine ret_mk (vs := _) (acc := _) (by simp only [go_sem, Nat.reduceLT, Nat.reduceLeDiff, Nat.reduceEqDiff, Nat.reduceAdd, Nat.reduceMul, Nat.reduceSub, reduceCtorEq, vres]; rfl) (by simp only [go_sem, Nat.reduceLT, Nat.reduceLeDiff, Nat.reduceEqDiff, Nat.reduceAdd, Nat.reduceMul, Nat.reduceSub, reduceCtorEq, wrap, exV, exAs, exA, exCs, exC, rowsH_len, rowsH_take, rowsD_len, rowsD_take, Nat.le_refl]; rfl) (by simp) (by simp) (by simp [rowsH_pur, rowsD_pur])
  · rw [finishR, if_pos hp] at hr
    have hp2 : stackB s0 fs0 = true ∧ inB m 0 2000 = true := by simpa [finOk] using hp
    rw [hp2.1] at hc
    rw [hp2.2] at hin
    have hi := stack_help hp2.1
    have hmr := hp2.2
    simp [inB] at hmr
    obtain ⟨n, hn⟩ : ∃ n : Nat, m = n := ⟨m.toNat, by omega⟩
    subst hn
    rw [Int.toNat_natCast] at hr
    obtain ⟨q, hq⟩ : ∃ q, finF n s0 fs0 = q := ⟨_, rfl⟩
    rw [hq] at hr
    have hk := finF_keeps n hi
    rw [hq] at hk
    have e1 : q.1.heads.length = s0.heads.length := hk.hl
    have e2 : q.1.descs.length = s0.descs.length := hk.dl
    have t1 := rowsH_take q.1.heads
    have t2 := rowsD_take 70 q.1.descs
    rw [e1] at t1
    rw [e2] at t2
    subst hr
    by_cases hstay : stuckB s0 fs0 = true
    · have hf := finishStay_ok s0 fs0 n hi hs (by omega) hstay q hq
      have hq1 : q.1 = s0 := by rw [← hq, finF_stay n hstay]
      simp only [hq1]
      have F := And.intro @rowsH_len (And.intro @rowsD_len (And.intro @rowsF_len (And.intro @rowsH_take (And.intro @rowsD_take (And.intro @rowsH_pur @rowsD_pur)))))
      repeat' first
        | refine wSq fun _ hK => ?_
        | refine wRg ?_
        | refine wDr ?_
        | refine VWP_block ?_
        | refine VWP_skip ?_
        | refine VWP_exit ?_
        | refine VWP_ret ?_
        | (refine hK _ ?_; clear hK)
        | (clear hK; refine hK _ ?_; clear hK)
        | (clear hK; clear hK; refine hK _ ?_; clear hK)
        | (clear hK; clear hK; clear hK; refine hK _ ?_; clear hK)
        | (simp only [wHb, reduceCtorEq] at hb <;> try (exfalso; omega))
        | refine wCd (fun hb => ?_) fun hb => ?_
        | refine wCa (c := by first | exact hc | exact ho | exact hin) (k := ?_)
        | refine wOw [4, 2, 3] (c := by exact hf) (k := ?_)
        | simp only [go_sem, Nat.reduceLT, Nat.reduceLeDiff, Nat.reduceEqDiff, Nat.reduceAdd, Nat.reduceMul, Nat.reduceSub, reduceCtorEq, F]
        | simp (disch := omega) only [decide_eq_true_eq, if_pos, if_neg, wrap_id, le_maxLen, and_true, true_and, if_true, ite_true]
        | refine wGd (fun hb => ?_) fun hb => ?_
      refine ret_mk (vs := _) (acc := _) (by simp only [go_sem, Nat.reduceLT, Nat.reduceLeDiff, Nat.reduceEqDiff, Nat.reduceAdd, Nat.reduceMul, Nat.reduceSub, reduceCtorEq, vres]; rfl) (by simp only [go_sem, Nat.reduceLT, Nat.reduceLeDiff, Nat.reduceEqDiff, Nat.reduceAdd, Nat.reduceMul, Nat.reduceSub, reduceCtorEq, wrap, exV, exAs, exA, exCs, exC, rowsH_len, rowsH_take, rowsD_len, rowsD_take, Nat.le_refl]; rfl) (by simp) (by simp) (by simp [rowsH_pur, rowsD_pur])
    · have hstay2 : stuckB s0 fs0 = false := by simpa using hstay
      have hne : fs0 ≠ [] := fun h => by subst h; simp [stuckB] at hstay
      rcases Nat.eq_zero_or_pos n with hn0 | hn0
      · subst hn0
        have hf := finishZero_ok s0 fs0 hi hs q hq
        have hq1 : q.1 = s0 := by rw [← hq]; rfl
        simp only [hq1]
        have F := And.intro @rowsH_len (And.intro @rowsD_len (And.intro @rowsF_len (And.intro @rowsH_take (And.intro @rowsD_take (And.intro @rowsH_pur @rowsD_pur)))))
        repeat' first
          | refine wSq fun _ hK => ?_
          | refine wRg ?_
          | refine wDr ?_
          | refine VWP_block ?_
          | refine VWP_skip ?_
          | refine VWP_exit ?_
          | refine VWP_ret ?_
          | (refine hK _ ?_; clear hK)
          | (clear hK; refine hK _ ?_; clear hK)
          | (clear hK; clear hK; refine hK _ ?_; clear hK)
          | (clear hK; clear hK; clear hK; refine hK _ ?_; clear hK)
          | (simp only [wHb, reduceCtorEq] at hb <;> try (exfalso; omega))
          | refine wCd (fun hb => ?_) fun hb => ?_
          | refine wCa (c := by first | exact hc | exact ho | exact hin) (k := ?_)
          | refine wOw [4, 2, 3] (c := by exact hf) (k := ?_)
          | simp only [go_sem, Nat.reduceLT, Nat.reduceLeDiff, Nat.reduceEqDiff, Nat.reduceAdd, Nat.reduceMul, Nat.reduceSub, reduceCtorEq, F]
          | simp (disch := omega) only [decide_eq_true_eq, if_pos, if_neg, wrap_id, le_maxLen, and_true, true_and, if_true, ite_true]
          | refine wGd (fun hb => ?_) fun hb => ?_
        refine ret_mk (vs := _) (acc := _) (by simp only [go_sem, Nat.reduceLT, Nat.reduceLeDiff, Nat.reduceEqDiff, Nat.reduceAdd, Nat.reduceMul, Nat.reduceSub, reduceCtorEq, vres]; rfl) (by simp only [go_sem, Nat.reduceLT, Nat.reduceLeDiff, Nat.reduceEqDiff, Nat.reduceAdd, Nat.reduceMul, Nat.reduceSub, reduceCtorEq, wrap, exV, exAs, exA, exCs, exC, rowsH_len, rowsH_take, rowsD_len, rowsD_take, Nat.le_refl]; rfl) (by simp) (by simp) (by simp [rowsH_pur, rowsD_pur])
      · have hf := finish_ok s0 fs0 n hi hs (by omega) (by omega) hne hstay2 q hq
        have F := And.intro @rowsH_len (And.intro @rowsD_len (And.intro @rowsF_len (And.intro @rowsH_take (And.intro @rowsD_take (And.intro @rowsH_pur @rowsD_pur)))))
        repeat' first
          | refine wSq fun _ hK => ?_
          | refine wRg ?_
          | refine wDr ?_
          | refine VWP_block ?_
          | refine VWP_skip ?_
          | refine VWP_exit ?_
          | refine VWP_ret ?_
          | (refine hK _ ?_; clear hK)
          | (clear hK; refine hK _ ?_; clear hK)
          | (clear hK; clear hK; refine hK _ ?_; clear hK)
          | (clear hK; clear hK; clear hK; refine hK _ ?_; clear hK)
          | (simp only [wHb, reduceCtorEq] at hb <;> try (exfalso; omega))
          | refine wCd (fun hb => ?_) fun hb => ?_
          | refine wCa (c := by first | exact hc | exact ho | exact hin) (k := ?_)
          | refine wOw [4, 2, 3] (c := by exact hf) (k := ?_)
          | simp only [go_sem, Nat.reduceLT, Nat.reduceLeDiff, Nat.reduceEqDiff, Nat.reduceAdd, Nat.reduceMul, Nat.reduceSub, reduceCtorEq, F]
          | simp (disch := omega) only [decide_eq_true_eq, if_pos, if_neg, wrap_id, le_maxLen, and_true, true_and, if_true, ite_true]
          | refine wGd (fun hb => ?_) fun hb => ?_
        refine ret_mk (vs := _) (acc := _) (by simp only [go_sem, Nat.reduceLT, Nat.reduceLeDiff, Nat.reduceEqDiff, Nat.reduceAdd, Nat.reduceMul, Nat.reduceSub, reduceCtorEq, vres]; rfl) (by simp only [go_sem, Nat.reduceLT, Nat.reduceLeDiff, Nat.reduceEqDiff, Nat.reduceAdd, Nat.reduceMul, Nat.reduceSub, reduceCtorEq, wrap, exV, exAs, exA, exCs, exC, rowsH_len, rowsD_len, e1, e2, t1, t2, Nat.le_refl]; rfl) (by simp) (by simp) (by simp [rowsH_pur, rowsD_pur])
theorem finishR_tiny (s : StoreD) (fs : List FrameD) (m : Int) (hs : s.tiny) : (finishR s fs m).1.tiny ∧ (finishR s fs m).1.heads.length = s.heads.length ∧ (finishR s fs m).1.descs.length = s.descs.length := by
  unfold finishR
  split
  · rename_i h
    have hp2 : stackB s fs = true ∧ inB m 0 2000 = true := by simpa [finOk] using h
    have hi := stack_help hp2.1
    have hk := finF_keeps m.toNat hi
    exact ⟨finF_tiny m.toNat hi hs, hk.hl, hk.dl⟩
  · exact ⟨hs, rfl, rfl⟩
end Go.Proofs.Ytchkbgekmoileaa
