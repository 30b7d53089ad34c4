/- The value-level engine, twentieth part: a region whose order is open comes, in whatever order, to what it comes to as it is written. -/
import Derived.Test.YtclljpdcpcolpaaEngS
namespace Go.Proofs.Ytclljpdcpcolpaa
open Go Go.RowKit
set_option linter.unusedVariables false
set_option linter.unusedSimpArgs false

def commB (oi oj : Oper) : Bool := (quietOp oi && quietOp oj) || dryOp oi || dryOp oj

/-- One step, in a window of tokens of its own. -/
def stepD (P : Program) (ty : Ty) (ops : Array Oper) (o : Oper) (lo hi : Nat) (d d' : St) : Prop := ∃ s', vstep P ty ops o (d.win lo hi) s' ∧ d' = s'.nm 0

def descs (ops : Array Oper) (i : Nat) : List Nat :=
  (List.range ops.size).foldl (fun acc j => match ops[j]? with
    | some o => if o.after.any (fun e => Region.binds .any e && (e.on == i || acc.contains e.on)) then j :: acc else acc
    | none => acc) []

/-- May the region be taken as it is written? -/
def drawOK (ops : Array Oper) : Bool :=
  (List.range ops.size).all fun j => match ops[j]? with
    | none => false
    | some oj => oj.after.all (fun e => !Region.binds .any e || decide (e.on < j)) && (List.range j).all fun i => (descs ops i).contains j || (match ops[i]? with
      | some oi => oi.apart ops oj && commB oi oj
      | none => false)

def lo (b i : Nat) : Nat := b + i * 64
def hi (b i : Nat) : Nat := b + (i + 1) * 64

def stepI (P : Program) (ty : Ty) (ops : Array Oper) (b i : Nat) (d d' : St) : Prop := ∃ o, ops[i]? = some o ∧ stepD P ty ops o (lo b i) (hi b i) d d'
def ChainD (P : Program) (ty : Ty) (ops : Array Oper) (b : Nat) : List Nat → St → (St → Prop) → Prop
  | [], d, K => K d
  | i :: L, d, K => ∃ d', stepI P ty ops b i d d' ∧ ChainD P ty ops b L d' K

def vdraw (P : Program) (ty : Ty) (ops : Array Oper) : List Oper → Nat → Nat → St → (St → Prop) → Prop
  | [], k, b, s, K => K (s.nm (b + k * 64))
  | o :: rest, k, b, s, K => vop P ty ops o (s.win (b + k * 64) (b + (k + 1) * 64)) fun s' => vdraw P ty ops rest (k + 1) b s' K

section
variable {P : Program} {E : Env} {g g' : Gh} {s s2 s' d d1 d2 : St} {a : Act} {w w' : World} {ty : Ty} {ops : Array Oper} {o oi oj : Oper}

theorem putf_ne {x : Option Nat} {v : VV} {f : Nat → VV} {t : Nat} (h : ∀ d, x = some d → t ≠ d) : putf x v f t = f t := by
  cases x with
  | none => rfl
  | some d => exact updV_ne _ _ (h d rfl)
theorem putf_comm {x y : Option Nat} {u v : VV} {f : Nat → VV} (h : ∀ d, x = some d → y ≠ some d) : putf x u (putf y v f) = putf y v (putf x u f) := by
  cases x with
  | none => rfl
  | some d =>
    cases y with
    | none => rfl
    | some e =>
      have hne : e ≠ d := fun hh => h d rfl (by rw [hh])
      funext t
      simp only [putf, updV]
      by_cases c1 : t = d
      · have : t ≠ e := fun hh => hne (by rw [← hh, c1])
        simp [c1, Ne.symm hne]
      · simp [c1]

theorem comm_step {li hI lj hJ : Nat} (hi1 : li ≤ hI) (hj1 : lj ≤ hJ) (hdis : hI ≤ lj ∨ hJ ≤ li) (hap : oi.apart ops oj = true) (hc : commB oi oj = true)
    (hseen : ∀ t, ∀ T ∈ toks (d.tm t), ¬ (li ≤ T ∧ T < hI) ∧ ¬ (lj ≤ T ∧ T < hJ)) (hdeep : ∀ t, ∀ T ∈ deepA d.H (d.tm t), ¬ (li ≤ T ∧ T < hI) ∧ ¬ (lj ≤ T ∧ T < hJ)) (h1 : stepD P ty ops oi li hI d d1) (h2 : stepD P ty ops oj lj hJ d1 d2) :
    ∃ d', stepD P ty ops oj lj hJ d d' ∧ stepD P ty ops oi li hI d' d2 := by
  obtain ⟨a1, a2, a3⟩ := Oper.apart_spec hap
  obtain ⟨s1, h1, rfl⟩ := h1
  obtain ⟨s3, h2, rfl⟩ := h2
  have pi : ∀ (v : VV) (f : Nat → VV), ∀ t ∈ oj.looksAt ops, putf oi.dst v f t = f t := fun v f t ht => putf_ne fun d hd hh => a1 d hd (hh ▸ ht)
  have pj : ∀ (v : VV) (f : Nat → VV), ∀ t ∈ oi.looksAt ops, putf oj.dst v f t = f t := fun v f t ht => putf_ne fun d hd hh => a3 d hd (hh ▸ ht)
  have hq : (quietOp oi = true ∧ quietOp oj = true) ∨ dryOp oi = true ∨ dryOp oj = true := by
    simp only [commB, Bool.or_eq_true, Bool.and_eq_true] at hc
    rcases hc with (h | h) | h
    · exact .inl h
    · exact .inr (.inl h)
    · exact .inr (.inr h)
  rcases hq with ⟨qi, qj⟩ | di | dj
  · obtain ⟨vi, δi, ni, n1, n2, rfl, n4⟩ := vstep_quiet (fun hh => by cases hh) qi h1
    have n2' : ni ≤ hI := n2 hI rfl hi1
    have n1' : li ≤ ni := n1
    obtain ⟨vj, δj, nj, m1, m2, rfl, m4⟩ := vstep_quiet (fun hh => by cases hh) qj h2
    have m2' : nj ≤ hJ := m2 hJ rfl hj1
    have m1' : lj ≤ nj := m1
    have e1 := m4 (d.win lj hJ) ⟨rfl, rfl, rfl, fun t ht => (pi vi d.tm t ht).symm, fun t ht T hT => by
      have hT' : T ∈ toks (d.tm t) := by
        have hh := pi vi d.tm t ht
        have hT : T ∈ toks (putf oi.dst vi d.tm t) := hT
        rwa [hh] at hT
      have hns := (hseen t T hT').1
      show d.H T = ov li ni δi d.H T
      simp only [ov]
      rw [if_neg (by omega)], fun t ht T hT => by
      have hdd : deepA (ov li ni δi d.H) (d.tm t) = deepA d.H (d.tm t) := deepA_agree fun X hX => by
        have hns := (hseen t X hX).1
        simp only [ov]
        rw [if_neg (by omega)]
      have hT' : T ∈ deepA d.H (d.tm t) := by
        have hh := pi vi d.tm t ht
        have hT : T ∈ deepA (ov li ni δi d.H) (putf oi.dst vi d.tm t) := hT
        rwa [hh, hdd] at hT
      have hns := (hdeep t T hT').1
      show d.H T = ov li ni δi d.H T
      simp only [ov]
      rw [if_neg (by omega)]⟩
    refine ⟨_, ⟨_, e1, rfl⟩, _, n4 _ ⟨rfl, rfl, rfl, fun t ht => pj vj d.tm t ht, fun t ht T hT => ?_, fun t ht T hT => ?_⟩, ?_⟩
    rotate_left
    · have hT' : T ∈ deepA d.H (d.tm t) := hT
      have hns := (hdeep t T hT').2
      show ov lj nj δj d.H T = d.H T
      simp only [ov]
      rw [if_neg (by omega)]
    rotate_right
    · have hT' : T ∈ toks (d.tm t) := hT
      have hns := (hseen t T hT').2
      show ov lj nj δj d.H T = d.H T
      simp only [ov]
      rw [if_neg (by omega)]
    · simp only [eff, St.nm, St.win, St.mk.injEq, and_true]
      refine ⟨(putf_comm a2).symm, ?_⟩
      funext T
      simp only [ov]
      by_cases c1 : li ≤ T ∧ T < ni
      · have c2 : ¬ (lj ≤ T ∧ T < nj) := by omega
        simp [c1, c2]
      · simp [c1]
  · obtain ⟨vi, rfl, n4⟩ := vstep_dry di h1
    obtain ⟨vj, H', nj, m1, m2, rfl, m4⟩ := vstep_wild (fun hh => by cases hh) h2
    have e1 := m4 (d.win lj hJ) (fun t ht => (pi vi d.tm t ht).symm) rfl rfl rfl rfl
    refine ⟨_, ⟨_, e1, rfl⟩, _, n4 _ (fun t ht => pj vj d.tm t ht) rfl, ?_⟩
    simp only [St.nm, St.win, St.mk.injEq, and_true]
    exact (putf_comm a2).symm
  · obtain ⟨vi, H', ni, n1, n2, rfl, n4⟩ := vstep_wild (fun hh => by cases hh) h1
    obtain ⟨vj, rfl, m4⟩ := vstep_dry dj h2
    have e1 := m4 (d.win lj hJ) (fun t ht => (pi vi d.tm t ht).symm) rfl
    refine ⟨_, ⟨_, e1, rfl⟩, _, n4 _ (fun t ht => pj vj d.tm t ht) rfl rfl rfl rfl, ?_⟩
    simp only [St.nm, St.win, St.mk.injEq, and_true]
    exact (putf_comm a2).symm

/-! ### The relation, from step to step -/
theorem cap_seen {H : Heap} {x : VV} {v : Value} (h : CapRel P E H g x v) : ∀ T ∈ tokP x, g.sn T = true := by
  cases x <;> intro T hT <;> simp only [tokP, List.mem_singleton, List.not_mem_nil] at hT
  all_goals (subst hT; exact h.1)
theorem crel_seen {H : Heap} {x : VV} {v : Value} (h : CRel P E H g x v) : ∀ T ∈ tokC x, g.sn T = true := by
  cases x
  case clo f caps =>
    intro T hT
    obtain ⟨cs, h1, h2, h3⟩ := h
    simp only [tokC, List.mem_flatMap] at hT
    obtain ⟨c, hc, hT⟩ := hT
    obtain ⟨j, hj⟩ := List.getElem?_of_mem hc
    have hlt : j < cs.length := by rw [h2]; exact (List.getElem?_eq_some_iff.1 hj).1
    exact cap_seen (h3 j c _ hj (List.getElem?_eq_getElem hlt)) T hT
  all_goals
    intro T hT
    simp only [tokC, List.mem_singleton, List.not_mem_nil] at hT
    try (subst hT; exact h.1)

theorem box_seen {H : Heap} (hh : HRel P E g H w) {T j : Nat} {cs : List VV} (hT : H T = .box cs) : ∀ X ∈ (cs.drop j).flatMap ptToks, g.sn X = true := by
  intro X hX
  simp only [List.mem_flatMap] at hX
  obtain ⟨c, hc, hX⟩ := hX
  obtain ⟨k, hk⟩ := List.getElem?_of_mem hc
  rw [List.getElem?_drop] at hk
  obtain ⟨cur, e, _, _, hcell⟩ := hh.box T cs hT
  obtain ⟨_, _, u, _, hr⟩ := hcell _ c hk
  cases c <;> simp only [ptToks, List.mem_singleton, List.not_mem_nil] at hX
  subst hX
  exact hr.1
theorem deepC_seen {H : Heap} (hh : HRel P E g H w) (x : VV) : ∀ T ∈ deepC H x, g.sn T = true := by
  intro X hX
  cases x with
  | bp T j =>
    simp only [deepC] at hX
    split at hX
    · rename_i cs hT; exact box_seen hh hT X hX
    · cases hX
  | clo f caps =>
    simp only [deepC, List.mem_flatMap] at hX
    obtain ⟨c, hc, hX⟩ := hX
    cases c with
    | bp T j =>
      simp only at hX
      split at hX
      · rename_i cs hT; exact box_seen hh hT X hX
      · cases hX
    | _ => cases hX
  | _ => simp [deepC] at hX
theorem deepA_seen {H : Heap} (hh : HRel P E g H w) (x : VV) : ∀ T ∈ deepA H x, g.sn T = true := by
  intro X hX
  by_cases ha : ∃ vs, x = .agg vs
  · obtain ⟨vs, rfl⟩ := ha
    simp only [deepA, List.mem_flatMap] at hX
    obtain ⟨c, _, hX⟩ := hX
    exact deepC_seen hh c X hX
  · have : deepA H x = deepC H x := by cases x <;> first | rfl | exact absurd ⟨_, rfl⟩ ha
    rw [this] at hX
    exact deepC_seen hh x X hX

theorem arel_seen {H : Heap} {x : VV} {v : Value} (h : ARel P E H g x v) : ∀ T ∈ tokA x, g.sn T = true := by
  by_cases ha : ∃ vs, x = .agg vs
  · obtain ⟨vs, rfl⟩ := ha
    obtain ⟨cs, h1, h2, h3⟩ := h
    intro T hT
    simp only [tokA, List.mem_flatMap] at hT
    obtain ⟨c, hc, hT⟩ := hT
    obtain ⟨j, hj⟩ := List.getElem?_of_mem hc
    have hlt : j < cs.length := by rw [h2]; exact (List.getElem?_eq_some_iff.1 hj).1
    exact crel_seen (h3 j c _ hj (List.getElem?_eq_getElem hlt)) T hT
  · have hne : ∀ vs, x ≠ .agg vs := fun vs hh => ha ⟨vs, hh⟩
    rw [arel_eq hne] at h
    have : tokA x = tokC x := by cases x <;> first | rfl | exact absurd rfl (hne _)
    rw [this]
    exact crel_seen h
theorem vrel_seen {H : Heap} {x : VV} {v : Value} (h : VRel P E H g x v) : ∀ T ∈ toks x, g.sn T = true := by
  by_cases ha : ∃ vs, x = .tup vs
  · obtain ⟨vs, rfl⟩ := ha
    obtain ⟨cs, h1, h2, h3⟩ := h
    intro T hT
    simp only [toks, List.mem_flatMap] at hT
    obtain ⟨c, hc, hT⟩ := hT
    obtain ⟨j, hj⟩ := List.getElem?_of_mem hc
    have hlt : j < cs.length := by rw [h2]; exact (List.getElem?_eq_some_iff.1 hj).1
    exact arel_seen (h3 j c _ hj (List.getElem?_eq_getElem hlt)) T hT
  · have hne : ∀ vs, x ≠ .tup vs := fun vs hh => ha ⟨vs, hh⟩
    rw [vrel_eq hne] at h
    have : toks x = tokA x := by cases x <;> first | rfl | exact absurd rfl (hne _)
    rw [this]
    exact arel_seen h

theorem rel_win {n l h : Nat} (hr : Rel P E g (d.nm n) a w) (hf : ∀ T, l ≤ T → T < h → g.sn T = false) : Rel P E g (d.win l h) a w :=
  ⟨hr.size, hr.defers, hr.heap, fun T hT => hf T hT.1 hT.2, hr.tmps, hr.pin⟩
theorem rel_nm {n : Nat} (hr : Rel P E g s a w) (hf : ∀ T, n ≤ T → g.sn T = false) : Rel P E g (s.nm n) a w :=
  ⟨hr.size, hr.defers, hr.heap, fun T hT => hf T hT.1, hr.tmps, hr.pin⟩

theorem wp_ex {K : Act → World → Prop} (h : o.wp P a w K (fun _ _ _ => False)) : ∃ a' w', K a' w' := by
  unfold Oper.wp at h
  generalize (execOp a.eval o).run P w = r at h
  cases r with
  | ok x w' =>
    cases x with
    | enter f args =>
      simp only [Oper.upon] at h
      obtain ⟨e, w2, fr, h1, _⟩ := h []
      cases e with
      | returned v => exact ⟨_, _, h1⟩
      | panicked c => exact h1.elim
      | outgrown => obtain ⟨_, _, hh⟩ := h1; exact hh.elim
    | row r args =>
      simp only [Oper.upon] at h
      obtain ⟨v, w2, h1, _⟩ := h default []
      exact ⟨_, _, h1⟩
    | _ => first | (simp only [Oper.upon] at h; done) | (simp only [Oper.upon] at h; exact ⟨_, _, h⟩)
  | halt x w' =>
    cases x <;> simp only [Oper.upon] at h

/-- Windows that nobody has seen. -/
def Unseen (g : Gh) (b n : Nat) (U : List Nat) : Prop := (∀ T, b + n * 64 ≤ T → g.sn T = false) ∧ ∀ i ∈ U, ∀ T, lo b i ≤ T → T < hi b i → g.sn T = false

theorem unseen_step {b n : Nat} {U : List Nat} {i : Nat} (hi' : i < n) (hU : Unseen g b n U) {s' : St} (hs : s'.nx ≤ hi b i) (hf : ∀ T, (lo b i ≤ T → s'.nx ≤ T) → g'.sn T = g.sn T) : Unseen g' b n (U.filter (· ≠ i)) := by
  have hle : (i + 1) * 64 ≤ n * 64 := Nat.mul_le_mul_right _ hi'
  refine ⟨fun T hT => ?_, fun k hk T h1 h2 => ?_⟩
  · rw [hf T (fun _ => ?_)]
    · exact hU.1 T hT
    · unfold hi at hs; omega
  · simp only [List.mem_filter, decide_eq_true_eq] at hk
    obtain ⟨hk1, hk2⟩ := hk
    rw [hf T (fun hlo => ?_)]
    · exact hU.2 k hk1 T h1 h2
    · unfold lo hi at *
      rcases Nat.lt_or_gt_of_ne hk2 with h | h
      · have : (k + 1) * 64 ≤ i * 64 := Nat.mul_le_mul_right _ h
        omega
      · have : (i + 1) * 64 ≤ k * 64 := Nat.mul_le_mul_right _ h
        omega

theorem stepD_nx {l h : Nat} (hlh : l ≤ h) (hv : vstep P ty ops o (d.win l h) s') : s'.nx ≤ h := by
  obtain ⟨v, H', n', h1, h2, rfl, _⟩ := vstep_wild (fun hh => by cases hh) hv
  exact h2 h rfl hlh

def Good (P : Program) (E : Env) (b n : Nat) (U : List Nat) (d : St) : Prop := ∃ g a w, Rel P E g (d.nm (b + n * 64)) a w ∧ Unseen g b n U

theorem lohi (b i : Nat) : lo b i ≤ hi b i := by unfold lo hi; omega

theorem good_step (hT : TyOK P ty) {b n : Nat} {U : List Nat} (hg : Good P E b n U d) {i : Nat} (hi' : i < n) (hiU : i ∈ U) (h : stepI P ty ops b i d d1) : Good P E b n (U.filter (· ≠ i)) d1 := by
  obtain ⟨g, a, w, hr, hU⟩ := hg
  obtain ⟨o, ho, s', hv, rfl⟩ := h
  have hnx := stepD_nx (lohi b i) hv
  have hw := rel_win (l := lo b i) (h := hi b i) hr (hU.2 i hiU)
  have key := vop_sound hT hw (ops := ops) (o := o) (K := (· = s')) hv (Kp := fun a' w' => ∃ g', Rel P E g' s' a' w' ∧ (∀ T, (lo b i ≤ T → s'.nx ≤ T) → g'.sn T = g.sn T)) (Q := fun _ _ _ => False)
    (fun g' s2 a' w' hs hr' hf => by subst hs; exact ⟨g', hr', hf⟩)
  have : ∃ a' w' g', Rel P E g' s' a' w' ∧ (∀ T, (lo b i ≤ T → s'.nx ≤ T) → g'.sn T = g.sn T) := by
    split at key
    · rcases key with k | ⟨_, _, _, k⟩
      · obtain ⟨a', w', g', k1⟩ := wp_ex k
        exact ⟨a', w', g', k1⟩
      · exact k.elim
    · obtain ⟨g', k1⟩ := key
      exact ⟨_, _, g', k1⟩
  obtain ⟨a', w', g', k1, k2⟩ := this
  have hun := unseen_step hi' hU hnx k2
  have hrel : Rel P E g' (s'.nm (b + n * 64)) a' w' := rel_nm k1 hun.1
  exact ⟨g', a', w', hrel, hun⟩

theorem bubble (hT : TyOK P ty) {b n : Nat} {K : St → Prop} {j : Nat} {oj : Oper} (hoj : ops[j]? = some oj) (hjn : j < n) : ∀ (pre post U : List Nat) (d : St), Good P E b n U d → j ∈ U → (∀ i ∈ pre, i ∈ U ∧ i < n ∧ i ≠ j) → pre.Nodup →
    (∀ i ∈ pre, ∃ oi, ops[i]? = some oi ∧ oi.apart ops oj = true ∧ commB oi oj = true) → ChainD P ty ops b (pre ++ j :: post) d K → ∃ d', stepI P ty ops b j d d' ∧ ChainD P ty ops b (pre ++ post) d' K
  | [], post, U, d, _, _, _, _, _, h => h
  | i :: pre, post, U, d, hg, hjU, hp, hnd, hc, h => by
    obtain ⟨d1, h1, h2⟩ := h
    obtain ⟨iU, hin, hij⟩ := hp i (List.mem_cons_self ..)
    have hg1 := good_step hT hg hin iU h1
    rw [List.nodup_cons] at hnd
    obtain ⟨d2, h3, h4⟩ := bubble hT hoj hjn pre post (U.filter (· ≠ i)) d1 hg1 (by simp [hjU, Ne.symm hij]) (fun k hk => by
      obtain ⟨k1, k2, k3⟩ := hp k (List.mem_cons_of_mem _ hk)
      have : k ≠ i := fun hh => hnd.1 (hh ▸ hk)
      exact ⟨by simp [k1, this], k2, k3⟩) hnd.2 (fun k hk => hc k (List.mem_cons_of_mem _ hk)) h2
    obtain ⟨oi, hoi, hap, hcm⟩ := hc i (List.mem_cons_self ..)
    obtain ⟨oi', hoi', h1⟩ := h1
    rw [hoi] at hoi'
    cases hoi'
    obtain ⟨oj', hoj', h3⟩ := h3
    rw [hoj] at hoj'
    cases hoj'
    obtain ⟨g, a, w, hr, hU⟩ := hg
    have hdis : hi b i ≤ lo b j ∨ hi b j ≤ lo b i := by
      unfold lo hi
      rcases Nat.lt_or_gt_of_ne hij with h | h
      · have : (i + 1) * 64 ≤ j * 64 := Nat.mul_le_mul_right _ h
        exact .inl (by omega)
      · have : (j + 1) * 64 ≤ i * 64 := Nat.mul_le_mul_right _ h
        exact .inr (by omega)
    obtain ⟨d', k1, k2⟩ := comm_step (lohi b i) (lohi b j) hdis hap hcm (fun t T hTt => by
      have hs := vrel_seen (hr.tmps t) T hTt
      refine ⟨fun hh => ?_, fun hh => ?_⟩
      · rw [hU.2 i iU T hh.1 hh.2] at hs; cases hs
      · rw [hU.2 j hjU T hh.1 hh.2] at hs; cases hs) (fun t T hTt => by
      have hs := deepA_seen hr.heap _ T hTt
      refine ⟨fun hh => ?_, fun hh => ?_⟩
      · rw [hU.2 i iU T hh.1 hh.2] at hs; cases hs
      · rw [hU.2 j hjU T hh.1 hh.2] at hs; cases hs) h1 h3
    exact ⟨d', ⟨oj, hoj, k1⟩, d2, ⟨oi, hoi, k2⟩, h4⟩

/-! ### Whatever the order -/
def unl (n : Nat) (listed : Array Bool) : List Nat := (List.range n).filter fun i => !listed.getD i true

def Closed (ops : Array Oper) (listed : Array Bool) : Prop := ∀ j o, ops[j]? = some o → listed.getD j true = true → ∀ e ∈ o.after, Region.binds .any e = true → listed.getD e.on false = true

theorem descs_closed {listed : Array Bool} (hc : Closed ops listed) (i : Nat) : ∀ j ∈ descs ops i, (listed.getD j true = true → listed.getD i false = true) ∧
    (∀ o, ops[j]? = some o → (∀ e ∈ o.after, Region.binds .any e = true → listed.getD e.on false = true) → listed.getD i false = true) := by
  have key : ∀ (l : List Nat) (acc : List Nat), (∀ j ∈ acc, (listed.getD j true = true → listed.getD i false = true) ∧
      (∀ o, ops[j]? = some o → (∀ e ∈ o.after, Region.binds .any e = true → listed.getD e.on false = true) → listed.getD i false = true)) →
      ∀ j ∈ l.foldl (fun acc j => match ops[j]? with
        | some o => if o.after.any (fun e => Region.binds .any e && (e.on == i || acc.contains e.on)) then j :: acc else acc
        | none => acc) acc, (listed.getD j true = true → listed.getD i false = true) ∧
      (∀ o, ops[j]? = some o → (∀ e ∈ o.after, Region.binds .any e = true → listed.getD e.on false = true) → listed.getD i false = true) := by
    intro l
    induction l with
    | nil => intro acc h; exact h
    | cons k l ih =>
      intro acc h
      simp only [List.foldl_cons]
      refine ih _ ?_
      cases ho : ops[k]? with
      | none => simp only [ho]; exact h
      | some o =>
        simp only [ho]
        split
        · rename_i hany
          have kk : ∀ o', ops[k]? = some o' → (∀ e ∈ o'.after, Region.binds .any e = true → listed.getD e.on false = true) → listed.getD i false = true := by
            intro o' ho' hall
            rw [ho] at ho'
            cases ho'
            rw [Array.any_eq_true] at hany
            obtain ⟨x, hx, he⟩ := hany
            simp only [Bool.and_eq_true, Bool.or_eq_true, beq_iff_eq, List.contains_eq_mem, decide_eq_true_eq] at he
            have hmem : o.after[x] ∈ o.after := Array.getElem_mem hx
            have hl := hall _ hmem he.1
            rcases he.2 with e1 | e1
            · rwa [e1] at hl
            · refine (h _ e1).1 ?_
              rcases Nat.lt_or_ge (o.after[x]).on listed.size with h' | h'
              · simp only [Array.getD_eq_getD_getElem?, Array.getElem?_eq_getElem h', Option.getD_some] at hl ⊢; exact hl
              · simp [Array.getD_eq_getD_getElem?, Array.getElem?_eq_none h'] at hl
          intro j hj
          rcases List.mem_cons.1 hj with rfl | hj
          · exact ⟨fun hl => kk o ho (hc _ o ho hl), kk⟩
          · exact h j hj
        · exact h
  exact key _ [] (fun j hj => by simp at hj)

theorem unl_set {n : Nat} {listed : Array Bool} (hn : listed.size = n) {j : Nat} (hj : j < n) : unl n (listed.setIfInBounds j true) = (unl n listed).filter (· ≠ j) := by
  unfold unl
  rw [List.filter_filter]
  refine List.filter_congr fun i hi => ?_
  by_cases c : i = j
  · subst c
    have : i < listed.size := by omega
    simp [this]
  · have : (listed.setIfInBounds j true).getD i true = listed.getD i true := getD_set_ne true (Ne.symm c)
    rw [this]
    simp [c]

theorem anyD (hT : TyOK P ty) {b n : Nat} {Q : Exit → St → Prop} (hn : ops.size = n)
    (hok : ∀ j, j < n → ∃ oj, ops[j]? = some oj ∧ (∀ e ∈ oj.after, Region.binds .any e = true → e.on < j) ∧ ∀ i, i < j → j ∈ descs ops i ∨ ∃ oi, ops[i]? = some oi ∧ oi.apart ops oj = true ∧ commB oi oj = true) :
    ∀ (fuel : Nat) (listed : Array Bool) (g : Gh) (d : St) (a : Act) (w : World), Rel P E g (d.nm (b + n * 64)) a w → Unseen g b n (unl n listed) → listed.size = n → Closed ops listed → (unl n listed).length ≤ fuel →
      ChainD P ty ops b (unl n listed) d (fun d => Q .normal (d.nm (b + n * 64))) → wpAny P .any ops (lift P E Q) fuel listed a w := by
  have hready : ∀ listed : Array Bool, listed.size = n → Region.ready .any ops listed = [] → unl n listed = [] := by
    intro listed hsz hr
    cases hu : unl n listed with
    | nil => rfl
    | cons i L =>
      exfalso
      have hi : i ∈ unl n listed := by rw [hu]; exact List.mem_cons_self ..
      have hi' := hi
      simp only [unl, List.mem_filter, List.mem_range, Bool.not_eq_true'] at hi'
      obtain ⟨oi, hoi, haf, _⟩ := hok i hi'.1
      have hpw : (unl n listed).Pairwise (· < ·) := List.Pairwise.filter _ (List.pairwise_lt_range)
      have : i ∈ Region.ready .any ops listed := by
        rw [mem_ready]
        refine ⟨hi'.2, oi, hoi, fun e he hb => ?_⟩
        have hlt := haf e he hb
        have hlt2 : e.on < listed.size := by omega
        cases hl : listed.getD e.on true with
        | true => simp only [Array.getD_eq_getD_getElem?, Array.getElem?_eq_getElem hlt2, Option.getD_some] at hl ⊢; exact hl
        | false =>
          have hmem : e.on ∈ unl n listed := by simp only [unl, List.mem_filter, List.mem_range, Bool.not_eq_true']; exact ⟨by omega, hl⟩
          rw [hu] at hmem hpw
          rw [List.pairwise_cons] at hpw
          rcases List.mem_cons.1 hmem with h | h
          · omega
          · have := hpw.1 _ h
            omega
      rw [hr] at this
      cases this
  intro fuel
  induction fuel with
  | zero =>
    intro listed g d a w hr hU hsz hcl hlen hch
    have hnil : unl n listed = [] := List.length_eq_zero_iff.1 (Nat.le_zero.1 hlen)
    rw [hnil] at hch
    refine ⟨?_, g, _, hr, hch⟩
    cases hrd : Region.ready .any ops listed with
    | nil => rfl
    | cons j L =>
      have : j ∈ Region.ready .any ops listed := by rw [hrd]; exact List.mem_cons_self ..
      obtain ⟨h0, o, ho, _⟩ := mem_ready.1 this
      have hlt : j < n := by rw [← hn]; exact (Array.getElem?_eq_some_iff.1 ho).1
      have : j ∈ unl n listed := by simp only [unl, List.mem_filter, List.mem_range, Bool.not_eq_true']; exact ⟨hlt, h0⟩
      rw [hnil] at this
      cases this
  | succ fuel ih =>
    intro listed g d a w hr hU hsz hcl hlen hch
    refine ⟨fun h0 => ?_, fun j hj => ?_⟩
    · rw [hready listed hsz h0] at hch
      exact ⟨g, _, hr, hch⟩
    · obtain ⟨h0, oj, hoj, hall⟩ := mem_ready.1 hj
      have hlt : j < n := by rw [← hn]; exact (Array.getElem?_eq_some_iff.1 hoj).1
      have hjU : j ∈ unl n listed := by simp only [unl, List.mem_filter, List.mem_range, Bool.not_eq_true']; exact ⟨hlt, h0⟩
      obtain ⟨pre, post, hsplit⟩ := List.append_of_mem hjU
      have hpw : (unl n listed).Pairwise (· < ·) := List.Pairwise.filter _ (List.pairwise_lt_range)
      have hpw' := hpw
      rw [hsplit, List.pairwise_append] at hpw'
      have hmemU : ∀ i ∈ pre, i ∈ unl n listed := fun i hi => by rw [hsplit]; exact List.mem_append_left _ hi
      have hpre : ∀ i ∈ pre, i < j := fun i hi => hpw'.2.2 i hi j (List.mem_cons_self ..)
      have hpost : ∀ i ∈ post, j < i := fun i hi => by
        have := hpw'.2.1
        rw [List.pairwise_cons] at this
        exact this.1 i hi
      have hnodup : pre.Nodup := hpw'.1.imp (fun h => Nat.ne_of_lt h)
      obtain ⟨oj', hoj', haf, hpair⟩ := hok j hlt
      rw [hoj] at hoj'
      cases hoj'
      have hcomm : ∀ i ∈ pre, ∃ oi, ops[i]? = some oi ∧ oi.apart ops oj = true ∧ commB oi oj = true := by
        intro i hi
        rcases hpair i (hpre i hi) with hd | hd
        · have hl := (descs_closed hcl i j hd).2 oj hoj hall
          have hu := hmemU i hi
          simp only [unl, List.mem_filter, List.mem_range, Bool.not_eq_true'] at hu
          have hlt2 : i < listed.size := by omega
          have h3 := hu.2
          simp only [Array.getD_eq_getD_getElem?, Array.getElem?_eq_getElem hlt2, Option.getD_some] at hl h3
          rw [hl] at h3
          cases h3
        · exact hd
      rw [hsplit] at hch
      obtain ⟨d', h1, h2⟩ := bubble hT hoj hlt pre post (unl n listed) d ⟨g, a, w, hr, hU⟩ hjU (fun i hi => ⟨hmemU i hi, Nat.lt_trans (hpre i hi) hlt, Nat.ne_of_lt (hpre i hi)⟩) hnodup hcomm hch
      obtain ⟨oj', hoj', s', hv, rfl⟩ := h1
      rw [hoj] at hoj'
      cases hoj'
      have hfil : unl n (listed.setIfInBounds j true) = pre ++ post := by
        rw [unl_set hsz hlt, hsplit, List.filter_append, List.filter_cons]
        have e1 : pre.filter (· ≠ j) = pre := List.filter_eq_self.2 fun i hi => by have := hpre i hi; simp; omega
        have e2 : post.filter (· ≠ j) = post := List.filter_eq_self.2 fun i hi => by have := hpost i hi; simp; omega
        rw [e1, e2]
        simp
      have hnx := stepD_nx (lohi b j) hv
      have hw := rel_win (l := lo b j) (h := hi b j) hr (hU.2 j hjU)
      unfold wpOp
      simp only [hoj]
      refine vop_sound hT hw (ops := ops) (o := oj) (K := (· = s')) hv fun g' s2 a' w' hs hr' hf => ?_
      subst hs
      have hun := unseen_step hlt hU hnx hf
      have hrel : Rel P E g' (s2.nm (b + n * 64)) a' w' := rel_nm hr' hun.1
      refine ih _ g' (s2.nm 0) a' w' hrel (by rw [unl_set hsz hlt]; exact hun) (by simpa using hsz) ?_ ?_ (by rw [hfil]; exact h2)
      · intro k o ho hk e he hb
        refine getD_set_true ?_
        by_cases c : k = j
        · subst c
          rw [hoj] at ho
          cases ho
          exact hall e he hb
        · rw [getD_set_ne true (Ne.symm c)] at hk
          exact hcl k o ho hk e he hb
      · have : (unl n listed).length = (pre ++ post).length + 1 := by rw [hsplit]; simp; omega
        rw [hfil]
        omega

theorem vdraw_chain {b : Nat} {K : St → Prop} : ∀ (l : List Oper) (k : Nat) (s : St), (∀ j, l[j]? = ops[k + j]?) → vdraw P ty ops l k b s K → ChainD P ty ops b (List.range' k l.length) (s.nm 0) (fun d => K (d.nm (b + (k + l.length) * 64)))
  | [], k, s, hl, h => h
  | o :: rest, k, s, hl, h => by
    obtain ⟨s', h1, h2⟩ := vop_ex.1 h
    have h0 : ops[k]? = some o := by simpa using (hl 0).symm
    have ih := vdraw_chain rest (k + 1) s' (fun j => by have := hl (j + 1); simpa [Nat.add_assoc, Nat.add_comm 1 j] using this) h2
    simp only [List.length_cons, List.range'_succ]
    refine ⟨s'.nm 0, ⟨o, h0, s', h1, rfl⟩, ?_⟩
    rw [show k + (rest.length + 1) = k + 1 + rest.length by omega]
    exact ih

theorem VWP_draw (hT : TyOK P ty) (hm : P.follows .mixedOrders = true) {id : Nat} {Q : Exit → St → Prop} (hok : drawOK ops = true) (hlim : s.lim = none) (h : vdraw P ty ops ops.toList 0 s.nx s (Q .normal)) : VWP P E (.region id ops true) Q s := by
  intro g a w hr
  refine wp_region_any hm ?_
  have hch := vdraw_chain ops.toList 0 s (by simp) h
  simp only [Array.length_toList, Nat.zero_add] at hch
  have hall : unl ops.size (Array.replicate ops.size false) = List.range' 0 ops.size := by
    rw [← List.range_eq_range']
    refine List.filter_eq_self.2 fun i hi => ?_
    have : i < ops.size := List.mem_range.1 hi
    simp [this]
  have hrel : Rel P E g ((s.nm 0).nm (s.nx + ops.size * 64)) a { w with drawn := w.drawn + 1 } :=
    ⟨hr.size, hr.defers, hr.heap.drew, fun T hT => hr.fresh T ⟨Nat.le_trans (Nat.le_add_right _ _) hT.1, by rw [hlim]; trivial⟩, hr.tmps, hr.pin⟩
  have hun : ∀ T, s.nx ≤ T → g.sn T = false := fun T hT => hr.fresh T ⟨hT, by rw [hlim]; trivial⟩
  refine anyD hT (b := s.nx) rfl (fun j hj => ?_) _ _ g (s.nm 0) a _ hrel ⟨fun T hT => hun T (by omega), fun i _ T h1 _ => hun T (by unfold lo at h1; omega)⟩ (by simp) (fun j o ho hl => ?_) (by rw [hall]; simp) (by rw [hall]; exact hch)
  · simp only [drawOK, List.all_eq_true, List.mem_range] at hok
    have := hok j hj
    split at this
    · cases this
    · rename_i oj hoj
      simp only [Bool.and_eq_true, Array.all_eq_true_iff_forall_mem, List.all_eq_true, List.mem_range, Bool.or_eq_true, Bool.not_eq_true', decide_eq_true_eq, List.contains_eq_mem] at this
      refine ⟨oj, hoj, fun e he hb => (this.1 e he).resolve_left (by simp [hb]), fun i hi => ?_⟩
      rcases this.2 i hi with h1 | h1
      · exact .inl h1
      · refine .inr ?_
        split at h1
        · rename_i oi hoi
          simp only [Bool.and_eq_true] at h1
          exact ⟨oi, hoi, h1.1, h1.2⟩
        · cases h1
  · have hlt : j < ops.size := (Array.getElem?_eq_some_iff.1 ho).1
    simp [hlt] at hl
end
end Go.Proofs.Ytclljpdcpcolpaa
