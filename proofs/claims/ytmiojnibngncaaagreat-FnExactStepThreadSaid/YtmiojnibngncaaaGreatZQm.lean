/- What the claim rests on, part 13: the value-level engine and contracts of functions; no condition. -/
import Derived.Test.YtmiojnibngncaaaGreatZQc
import Derived.Test.YtmiojnibngncaaaGreatZQl
namespace Go.Proofs.YtmiojnibngncaaaGreat
open Go Go.RowKit
set_option linter.unusedVariables false
set_option linter.unusedSimpArgs false
def Qd4 (o : Oper) : Bool := match o.guard, o.op with
  | none, .call c => (match c.callee with | .value (.func _) => true | _ => false)
  | _, _ => false
def Xe1 (ops : Array Oper) (c i j : Nat) : Bool := match ops[i]?, ops[j]? with
  | some oi, some oj => oi.apart ops oj && (if i = c ∨ j = c then Qiq oi || Qiq oj else Qum oi oj)
  | _, _ => false
def Qsp (ops : Array Oper) (c j : Nat) : List Nat → List Nat → Option (List Nat)
  | _, [] => none
  | seen, i :: L => if i = j then some (seen.reverse ++ L) else if Xe1 ops c i j = true then Qsp ops c j (i :: seen) L else none
def Xho (ops : Array Oper) (j : Nat) : Bool := match ops[j]? with
  | some o => (match o.op with
    | .call c => (match c.callee with | .builtin _ => true | _ => false)
    | _ => true)
  | none => false
def Qp5 (ops : Array Oper) (c j : Nat) (R : List (List Nat)) : List (List Nat) := if Xho ops j = true then R.filterMap (Qsp ops c j []) else (R.filterMap (Qsp ops c j [])).take 1
def Xf1 (ops : Array Oper) (c : Nat) : Nat → Array Bool → List (List Nat) → Bool
  | 0, listed, R => (Region.ready .any ops listed).isEmpty && R.any (·.isEmpty)
  | f + 1, listed, R => (!(Region.ready .any ops listed).isEmpty || R.any (·.isEmpty)) && (Region.ready .any ops listed).all fun j => !(Qp5 ops c j R).isEmpty && Xf1 ops c f (listed.setIfInBounds j true) (Qp5 ops c j R)
def Qxt {α : Type} [DecidableEq α] : List α → List α
  | [] => []
  | x :: xs => if x ∈ Qxt xs then Qxt xs else x :: Qxt xs
theorem Qst {α : Type} [DecidableEq α] {x : α} : ∀ {xs : List α}, x ∈ xs → x ∈ Qxt xs
  | y :: xs, h => by
    unfold Qxt
    rcases List.mem_cons.1 h with rfl | h
    · split
      · assumption
      · exact List.mem_cons_self ..
    · have := Qst h
      split
      · exact this
      · exact List.mem_cons_of_mem _ this
def Xg9 (ops : Array Oper) (c : Nat) : Nat → List (Array Bool × List (List Nat)) → Bool
  | 0, L => L.all fun s => (Region.ready .any ops s.1).isEmpty && s.2.any (·.isEmpty)
  | f + 1, L => (L.all fun s => (!(Region.ready .any ops s.1).isEmpty || s.2.any (·.isEmpty)) && (Region.ready .any ops s.1).all fun j => !(Qp5 ops c j s.2).isEmpty) &&
      Xg9 ops c f (Qxt (L.flatMap fun s => (Region.ready .any ops s.1).map fun j => (s.1.setIfInBounds j true, Qp5 ops c j s.2)))
theorem Qs5 {ops : Array Oper} {c : Nat} : ∀ {f : Nat} {L : List (Array Bool × List (List Nat))}, Xg9 ops c f L = true → ∀ s ∈ L, Xf1 ops c f s.1 s.2 = true
  | 0, L, h, s, hs => by
    unfold Xg9 at h
    unfold Xf1
    exact List.all_eq_true.1 h s hs
  | f + 1, L, h, s, hs => by
    unfold Xg9 at h
    rw [Bool.and_eq_true] at h
    have h1 := List.all_eq_true.1 h.1 s hs
    rw [Bool.and_eq_true] at h1
    unfold Xf1
    rw [Bool.and_eq_true]
    refine ⟨h1.1, List.all_eq_true.2 fun j hj => ?_⟩
    rw [Bool.and_eq_true]
    refine ⟨List.all_eq_true.1 h1.2 j hj, ?_⟩
    exact Qs5 h.2 (s.1.setIfInBounds j true, Qp5 ops c j s.2) (Qst (List.mem_flatMap.2 ⟨s, hs, List.mem_map.2 ⟨j, hj, rfl⟩⟩))
def permOK (n : Nat) (L : List Nat) : Bool := L.all (fun i => decide (i < n)) && decide L.Nodup
section
variable {P : Program} {E : Env} {g g' : Gh} {s s2 s' d d1 d2 : St} {a : Act} {w w' : World} {ty : Ty} {ops : Array Oper} {o oi oj : Oper}
theorem Qmo (ho : Qd4 o = true) (h : Qdz P ty ops o s s') : ∃ v H' n', s.nx ≤ n' ∧ s' = { s with tm := Qg9 o.dst v s.tm, H := H', nx := n' } ∧
    ∀ s2 : St, (∀ t ∈ o.looksAt ops, s2.tm t = s.tm t) → s2.H = s.H → s2.nx = s.nx → s2.lim = s.lim → s2.N = s.N → Qdz P ty ops o s2 { s2 with tm := Qg9 o.dst v s2.tm, H := H', nx := n' } := by
  have hg : o.guard = none ∧ ∃ c f, o.op = .call c ∧ c.callee = .value (.func f) := by
    unfold Qd4 at ho
    split at ho
    · rename_i c hgu hop
      split at ho
      · rename_i f hc
        exact ⟨hgu, c, f, hop, hc⟩
      · cases ho
    · cases ho
  obtain ⟨hgu, c, f, hop, hcal⟩ := hg
  have hw : ∀ s, Qi8 ops s o = some true := fun s => by simp only [Qi8, hgu]
  have hf : ∀ s, Qgt s o = some (f, c.args.toList, c.argTypes.toList, []) := fun s => by simp only [Qgt, hop, hcal]
  unfold Qdz vop at h
  rw [hw, hf] at h
  simp only at h
  have hh : ∀ s2 : St, (∀ t ∈ o.looksAt ops, s2.tm t = s.tm t) → s2.H = s.H → Qcx ty s2 c.args.toList c.argTypes.toList = Qcx ty s c.args.toList c.argTypes.toList := fun s2 ht hH =>
    (Qfz (ops := ops) (o := o) (ty := ty) ht (fun t _ T _ => by rw [hH]) (fun t _ T _ => by rw [hH]) c.args.toList c.argTypes.toList (fun x hx => (Qq1 (ops := ops) (hf s)).1 x hx)).1
  rcases h with ⟨h1, v, l, h2, h3, s1, h4, rfl⟩ | ⟨h1, σ, v, O, h2, h3, h4, h5, h6, s1, h7, rfl⟩
  · obtain ⟨p1, p2⟩ := Qdq h4
    refine ⟨_, _, _, Nat.le_add_right _ _, p1, fun s2 ht hH hn hl hN => ?_⟩
    have hh2 := hh s2 ht hH
    rcases s2 with ⟨tm2, H2, nx2, N2, lim2⟩
    simp only at ht hH hn hl hN
    subst hH; subst hn; subst hl; subst hN
    unfold Qdz vop
    rw [hw, hf]
    simp only
    rw [hh2]
    exact .inl ⟨h1, v, l, h2, h3, _, p2 (St.imp ⟨tm2, s.H, s.nx, s.N, s.lim⟩ l) rfl, rfl⟩
  · obtain ⟨p1, p2⟩ := Qdq h7
    refine ⟨_, _, _, Nat.le_add_right _ _, p1, fun s2 ht hH hn hl hN => ?_⟩
    have hh2 := hh s2 ht hH
    rcases s2 with ⟨tm2, H2, nx2, N2, lim2⟩
    simp only at ht hH hn hl hN
    subst hH; subst hn; subst hl; subst hN
    unfold Qdz vop
    rw [hw, hf]
    simp only
    rw [hh2]
    exact .inr ⟨h1, σ, v, O, h2, h3, h4, h5, h6, _, p2 (St.impO ⟨tm2, s.H, s.nx, s.N, s.lim⟩ σ O) rfl, rfl⟩
def Xf0 (o : Oper) : Bool := match o.op with
  | .call c => (match c.callee with | .builtin _ => true | _ => false)
  | _ => true
theorem Qr4 (hd : Xf0 o = true) (h1 : Qdz P ty ops o s s2) (h2 : Qdz P ty ops o s s') : s2 = s' := by
  have hf : Qgt s o = none := by
    unfold Qgt
    unfold Xf0 at hd
    split at hd
    · rename_i c hop
      rw [hop]
      simp only
      split at hd
      · rename_i b hb
        rw [hb]
      · cases hd
    · rename_i hno
      cases ho : o.op <;> try rfl
      rename_i c
      exact absurd ho (hno c)
  unfold Qdz vop at h1 h2
  rw [hf] at h1 h2
  split at h1
  · rename_i hw
    rw [hw] at h2
    obtain ⟨a1, b1, rfl⟩ := h1
    obtain ⟨a2, b2, rfl⟩ := h2
    rw [b1] at b2
    exact Option.some.inj b2
  · rename_i hw
    rw [hw] at h2
    obtain ⟨a1, b1, rfl⟩ := h1
    obtain ⟨a2, b2, rfl⟩ := h2
    rw [b1] at b2
    exact Option.some.inj b2
  · exact h1.elim
def Qp0 (P : Program) (ty : Ty) (ops : Array Oper) (b c i : Nat) (d d' : St) : Prop := ∃ o, ops[i]? = some o ∧ (if i = c then Qdz P ty ops o d d' else ∃ s', Qdz P ty ops o (d.win (lo b i) (hi b i)) s' ∧ d' = s'.nm d.nx)
def Qkx (P : Program) (ty : Ty) (ops : Array Oper) (b c : Nat) : List Nat → St → (St → Prop) → Prop
  | [], d, K => K d
  | i :: L, d, K => ∃ d', Qp0 P ty ops b c i d d' ∧ Qkx P ty ops b c L d' K
def Qj8 (g : Gh) (b c : Nat) (U : List Nat) : Prop := ∀ i ∈ U, i ≠ c → ∀ T, lo b i ≤ T → T < hi b i → g.sn T = false
def Qz4 (P : Program) (E : Env) (b n c : Nat) (U : List Nat) (d : St) : Prop := d.lim = none ∧ b + n * 64 ≤ d.nx ∧ ∃ g a w, Rel P E g d a w ∧ Qj8 g b c U
theorem Xf8 (h : d.lim = none) : d.nm d.nx = d := by cases d; simp only at h; subst h; rfl
theorem Xg6 {b i n : Nat} (h : i < n) : hi b i ≤ b + n * 64 := by
  have : (i + 1) * 64 ≤ n * 64 := Nat.mul_le_mul_right _ h
  unfold hi; omega
theorem Xac {b i k : Nat} (h : i ≠ k) : hi b i ≤ lo b k ∨ hi b k ≤ lo b i := by
  unfold lo hi
  rcases Nat.lt_or_gt_of_ne h with h | h
  · have : (i + 1) * 64 ≤ k * 64 := Nat.mul_le_mul_right _ h
    exact .inl (by omega)
  · have : (k + 1) * 64 ≤ i * 64 := Nat.mul_le_mul_right _ h
    exact .inr (by omega)
theorem Qlw (hT : Qeo P ty) {b n c i : Nat} {U : List Nat} (hUn : ∀ k ∈ U, k < n) (hl : d.lim = none) (hb : b + n * 64 ≤ d.nx) (hr : Rel P E g d a w) (hU : Qj8 g b c U) (hiU : i ∈ U) {o : Oper} (hpc : i = c → Qd4 o = true)
    (h : if i = c then Qdz P ty ops o d d1 else ∃ s', Qdz P ty ops o (d.win (lo b i) (hi b i)) s' ∧ d1 = s'.nm d.nx) {Kp : Act → World → Prop} {Q : Exit → Act → World → Prop}
    (hK : ∀ g' a' w', Rel P E g' d1 a' w' → d1.lim = none → b + n * 64 ≤ d1.nx → Qj8 g' b c (U.filter (· ≠ i)) → Kp a' w') :
    if Region.wanted o (yielded ops a.tmps) then o.wp P a w Kp Q ∨ (o.asks P a w ∧ LetsOut Q) else Kp (a.put o.dst undef) w := by
  by_cases hic : i = c
  · rw [if_pos hic] at h
    obtain ⟨v, H', n', h1, h2, _⟩ := Qmo (hpc hic) h
    have e1 : d1.lim = none := by rw [h2]; exact hl
    have e2 : d1.nx = n' := by rw [h2]
    refine Qgh hT hr (ops := ops) (o := o) (K := (· = d1)) h fun g' s2 a' w' hs hr' hf => ?_
    subst hs
    refine hK g' a' w' hr' e1 (by omega) fun k hk hkc T t1 t2 => ?_
    have hkU : k ∈ U := (List.mem_filter.1 hk).1
    have hle := Xg6 (b := b) (hUn k hkU)
    rw [hf T (fun hh => by omega)]
    exact hU k hkU hkc T t1 t2
  · rw [if_neg hic] at h
    obtain ⟨s', hv, rfl⟩ := h
    have hnx := Qpx (Xew b i) hv
    have hle := Xg6 (b := b) (hUn i hiU)
    have hw := Quo (l := lo b i) (h := hi b i) (n := d.nx) (by rw [Xf8 hl]; exact hr) (hU i hiU hic)
    refine Qgh hT hw (ops := ops) (o := o) (K := (· = s')) hv fun g' s2 a' w' hs hr' hf => ?_
    subst hs
    refine hK g' a' w' (Xbj hr' fun T hT => ?_) rfl hb fun k hk hkc T t1 t2 => ?_
    · rw [hf T (fun _ => by omega)]
      exact hr.fresh T ⟨hT, by rw [hl]; trivial⟩
    · simp only [List.mem_filter, decide_eq_true_eq] at hk
      have hfar := Xac (b := b) hk.2
      have := Xew b k
      rw [hf T (fun hh => by have hh : lo b i ≤ T := hh; omega)]
      exact hU k hk.1 hkc T t1 t2
theorem Qw7 (hT : Qeo P ty) {b n c i : Nat} {U : List Nat} (hUn : ∀ k ∈ U, k < n) (hg : Qz4 P E b n c U d) (hiU : i ∈ U) (hpc : ∀ o, ops[c]? = some o → Qd4 o = true) (h : Qp0 P ty ops b c i d d1) : Qz4 P E b n c (U.filter (· ≠ i)) d1 := by
  obtain ⟨hl, hb, g, a, w, hr, hU⟩ := hg
  obtain ⟨o, ho, h⟩ := h
  have key := Qlw (E := E) hT hUn hl hb hr hU hiU (o := o) (fun hic => hpc o (hic ▸ ho)) h (Kp := fun a' w' => ∃ g', Rel P E g' d1 a' w' ∧ d1.lim = none ∧ b + n * 64 ≤ d1.nx ∧ Qj8 g' b c (U.filter (· ≠ i))) (Q := fun _ _ _ => False)
    (fun g' a' w' k1 k2 k3 k4 => ⟨g', k1, k2, k3, k4⟩)
  have : ∃ a' w' g', Rel P E g' d1 a' w' ∧ d1.lim = none ∧ b + n * 64 ≤ d1.nx ∧ Qj8 g' b c (U.filter (· ≠ i)) := by
    split at key
    · rcases key with k | ⟨_, _, _, k⟩
      · obtain ⟨a', w', g', k1⟩ := Xg5 k
        exact ⟨a', w', g', k1⟩
      · exact k.elim
    · obtain ⟨g', k1⟩ := key
      exact ⟨_, _, g', k1⟩
  obtain ⟨a', w', g', k1, k2, k3, k4⟩ := this
  exact ⟨k2, k3, g', a', w', k1, k4⟩
theorem Qyw {b n c i j : Nat} {U : List Nat} (hUn : ∀ k ∈ U, k < n) (hg : Qz4 P E b n c U d) (hiU : i ∈ U) (hjU : j ∈ U) (hij : i ≠ j) (hpc : ∀ o, ops[c]? = some o → Qd4 o = true) (hc : Xe1 ops c i j = true)
    (h1 : Qp0 P ty ops b c i d d1) (h2 : Qp0 P ty ops b c j d1 d2) : ∃ d', Qp0 P ty ops b c j d d' ∧ Qp0 P ty ops b c i d' d2 := by
  obtain ⟨hl, hb, g, a, w, hr, hU⟩ := hg
  obtain ⟨oi, hoi, h1⟩ := h1
  obtain ⟨oj, hoj, h2⟩ := h2
  unfold Xe1 at hc
  rw [hoi, hoj] at hc
  simp only [Bool.and_eq_true] at hc
  obtain ⟨hap, hc⟩ := hc
  obtain ⟨a1, a2, a3⟩ := Oper.apart_spec hap
  have pi : ∀ (v : VV) (f : Nat → VV), ∀ t ∈ oj.looksAt ops, Qg9 oi.dst v f t = f t := fun v f t ht => Qpe fun d hd hh => a1 d hd (hh ▸ ht)
  have pj : ∀ (v : VV) (f : Nat → VV), ∀ t ∈ oi.looksAt ops, Qg9 oj.dst v f t = f t := fun v f t ht => Qpe fun d hd hh => a3 d hd (hh ▸ ht)
  by_cases hic : i = c
  · have hjc : ¬ j = c := fun h => hij (hic.trans h.symm)
    rw [if_pos hic] at h1
    rw [if_neg hjc] at h2
    rw [if_pos (.inl hic)] at hc
    obtain ⟨v, H', n', m1, rfl, m4⟩ := Qmo (hpc oi (hic ▸ hoi)) h1
    have hdj : Qiq oj = true := by
      rcases Bool.or_eq_true _ _ ▸ hc with h | h
      · exfalso
        have hp := hpc oi (hic ▸ hoi)
        unfold Qd4 at hp
        split at hp
        · rename_i hop
          simp [Qiq, hop] at h
        · cases hp
      · exact h
    obtain ⟨s', hv, rfl⟩ := h2
    obtain ⟨vj, rfl, k4⟩ := Qjm hdj hv
    refine ⟨({ (d.win (lo b j) (hi b j)) with tm := Qg9 oj.dst vj d.tm } : St).nm d.nx, ⟨oj, hoj, ?_⟩, oi, hoi, ?_⟩
    · rw [if_neg hjc]
      exact ⟨_, k4 (d.win (lo b j) (hi b j)) (fun t ht => (pi v d.tm t ht).symm) rfl, rfl⟩
    · rw [if_pos hic]
      have := m4 (({ (d.win (lo b j) (hi b j)) with tm := Qg9 oj.dst vj d.tm } : St).nm d.nx) (fun t ht => pj vj d.tm t ht) rfl rfl hl.symm rfl
      have e : Qg9 oi.dst v (Qg9 oj.dst vj d.tm) = Qg9 oj.dst vj (Qg9 oi.dst v d.tm) := Qho a2
      have e2 : ({ d with tm := Qg9 oi.dst v d.tm, H := H', nx := n' } : St).lim = none := hl
      simp only [St.nm, St.win] at this ⊢
      rw [e] at this
      exact hl ▸ this
  · by_cases hjc : j = c
    · rw [if_neg hic] at h1
      rw [if_pos hjc] at h2
      rw [if_pos (.inr hjc)] at hc
      have hdi : Qiq oi = true := by
        rcases Bool.or_eq_true _ _ ▸ hc with h | h
        · exact h
        · exfalso
          have hp := hpc oj (hjc ▸ hoj)
          unfold Qd4 at hp
          split at hp
          · rename_i hop
            simp [Qiq, hop] at h
          · cases hp
      obtain ⟨s', hv, rfl⟩ := h1
      obtain ⟨vi, rfl, k4⟩ := Qjm hdi hv
      obtain ⟨v, H', n', m1, rfl, m4⟩ := Qmo (hpc oj (hjc ▸ hoj)) h2
      have e1 := m4 d (fun t ht => (pi vi d.tm t ht).symm) rfl rfl hl rfl
      refine ⟨_, ⟨oj, hoj, by rw [if_pos hjc]; exact e1⟩, oi, hoi, ?_⟩
      rw [if_neg hic]
      refine ⟨_, k4 _ (fun t ht => pj v d.tm t ht) rfl, ?_⟩
      simp only [St.nm, St.win, St.mk.injEq, and_true, true_and]
      exact (Qho a2).symm
    · rw [if_neg hic] at h1
      rw [if_neg hjc] at h2
      rw [if_neg (fun h => h.elim hic hjc)] at hc
      obtain ⟨s1, v1, rfl⟩ := h1
      obtain ⟨s3, v3, rfl⟩ := h2
      obtain ⟨d', ⟨t1, u1, rfl⟩, t2, u2, u3⟩ := Qs6 (d := d) (d1 := s1.nm 0) (d2 := s3.nm 0) (Xew b i) (Xew b j) (Xac hij) hap hc (fun t T hTt => by
        have hs := Qs9 (hr.tmps t) T hTt
        refine ⟨fun hh => ?_, fun hh => ?_⟩
        · rw [hU i hiU hic T hh.1 hh.2] at hs; cases hs
        · rw [hU j hjU hjc T hh.1 hh.2] at hs; cases hs) (fun t T hTt => by
        have hs := Qn3 hr.heap _ T hTt
        refine ⟨fun hh => ?_, fun hh => ?_⟩
        · rw [hU i hiU hic T hh.1 hh.2] at hs; cases hs
        · rw [hU j hjU hjc T hh.1 hh.2] at hs; cases hs) ⟨s1, v1, rfl⟩ ⟨s3, v3, rfl⟩
      refine ⟨t1.nm d.nx, ⟨oj, hoj, by rw [if_neg hjc]; exact ⟨t1, u1, rfl⟩⟩, oi, hoi, ?_⟩
      rw [if_neg hic]
      refine ⟨t2, u2, ?_⟩
      have u4 := congrArg (fun s => s.nm d.nx) u3
      exact u4
theorem Qm4 (hT : Qeo P ty) {b n c j : Nat} {K : St → Prop} (hpc : ∀ o, ops[c]? = some o → Qd4 o = true) : ∀ (L seen L' U : List Nat) (d : St), Qsp ops c j seen L = some L' → Qz4 P E b n c U d → (∀ k ∈ U, k < n) → (∀ k ∈ L, k ∈ U) → L.Nodup → Qkx P ty ops b c L d K →
    ∃ L2, L' = seen.reverse ++ L2 ∧ (∀ k, k ∈ L2 ↔ k ∈ L ∧ k ≠ j) ∧ L2.Nodup ∧ j ∈ L ∧ ∃ d', Qp0 P ty ops b c j d d' ∧ Qkx P ty ops b c L2 d' K
  | [], seen, L', U, d, h, _, _, _, _, _ => by simp [Qsp] at h
  | i :: L, seen, L', U, d, h, hg, hUn, hLU, hnd, hch => by
    rw [List.nodup_cons] at hnd
    unfold Qsp at h
    split at h
    · rename_i hij
      subst hij
      simp only [Option.some.injEq] at h
      refine ⟨L, h.symm, fun k => ⟨fun hk => ⟨List.mem_cons_of_mem _ hk, fun he => hnd.1 (he ▸ hk)⟩, fun hk => (List.mem_cons.1 hk.1).resolve_left hk.2⟩, hnd.2, List.mem_cons_self .., hch⟩
    · rename_i hij
      split at h
      · rename_i hcm
        obtain ⟨d1, h1, h2⟩ := hch
        have hiU := hLU i (List.mem_cons_self ..)
        have hg1 := Qw7 hT hUn hg hiU hpc h1
        obtain ⟨L2, e1, e2, e3, e4, d2, k1, k2⟩ := Qm4 hT hpc L (i :: seen) L' (U.filter (· ≠ i)) d1 h hg1 (fun k hk => hUn k (List.mem_filter.1 hk).1) (fun k hk => by
          have : k ≠ i := fun he => hnd.1 (he ▸ hk)
          simp [this, hLU k (List.mem_cons_of_mem _ hk)]) hnd.2 h2
        obtain ⟨d', u1, u2⟩ := Qyw hUn hg hiU (hLU j (List.mem_cons_of_mem _ e4)) hij hpc hcm h1 k1
        refine ⟨i :: L2, by rw [e1]; simp, fun k => ?_, ?_, List.mem_cons_of_mem _ e4, d', u1, d2, u2, k2⟩
        · simp only [List.mem_cons, e2]
          constructor
          · rintro (rfl | ⟨h1, h2⟩)
            · exact ⟨.inl rfl, hij⟩
            · exact ⟨.inr h1, h2⟩
          · rintro ⟨rfl | h1, h2⟩
            · exact .inl rfl
            · exact .inr ⟨h1, h2⟩
        · rw [List.nodup_cons]
          exact ⟨fun hh => hnd.1 ((e2 i).1 hh).1, e3⟩
      · cases h
theorem anyK (hT : Qeo P ty) {b n c : Nat} {Q : Exit → St → Prop} (hn : ops.size = n) (hpc : ∀ o, ops[c]? = some o → Qd4 o = true) :
    ∀ (fuel : Nat) (listed : Array Bool) (R : List (List Nat)) (g : Gh) (d : St) (a : Act) (w : World), Xf1 ops c fuel listed R = true → (∀ L ∈ R, L.Nodup ∧ ∀ k, k ∈ L ↔ k ∈ unl n listed) → d.lim = none → b + n * 64 ≤ d.nx → Rel P E g d a w → Qj8 g b c (unl n listed) → listed.size = n →
      (∀ L ∈ R, Qkx P ty ops b c L d (Q .normal)) → wpAny P .any ops (Xgn P E Q) fuel listed a w := by
  have fin : ∀ (R : List (List Nat)) (d : St), R.any (·.isEmpty) = true → (∀ L ∈ R, Qkx P ty ops b c L d (Q .normal)) → Q .normal d := by
    intro R d h1 h2
    rw [List.any_eq_true] at h1
    obtain ⟨L, hL, he⟩ := h1
    have := h2 L hL
    cases L with
    | nil => exact this
    | cons => simp at he
  intro fuel
  induction fuel with
  | zero =>
    intro listed R g d a w hcov hR hl hb hr hU hsz hch
    simp only [Xf1, Bool.and_eq_true, List.isEmpty_iff] at hcov
    exact ⟨hcov.1, g, _, hr, fin R d hcov.2 hch⟩
  | succ fuel ih =>
    intro listed R g d a w hcov hR hl hb hr hU hsz hch
    simp only [Xf1, Bool.and_eq_true, Bool.or_eq_true, Bool.not_eq_true', List.all_eq_true] at hcov
    obtain ⟨hc1, hc2⟩ := hcov
    refine ⟨fun h0 => ⟨g, _, hr, fin R d (hc1.resolve_left (by simp [h0])) hch⟩, fun j hj => ?_⟩
    obtain ⟨hne, hcov'⟩ := hc2 j hj
    obtain ⟨h0, oj, hoj, hall⟩ := mem_ready.1 hj
    have hlt : j < n := by rw [← hn]; exact (Array.getElem?_eq_some_iff.1 hoj).1
    have hUn : ∀ k ∈ unl n listed, k < n := fun k hk => by
      simp only [unl, List.mem_filter, List.mem_range] at hk
      exact hk.1
    have hjU : j ∈ unl n listed := by simp only [unl, List.mem_filter, List.mem_range, Bool.not_eq_true']; exact ⟨hlt, h0⟩
    have hgood : Qz4 P E b n c (unl n listed) d := ⟨hl, hb, g, a, w, hr, hU⟩
    have key : ∀ L' ∈ R.filterMap (Qsp ops c j []), (L'.Nodup ∧ ∀ k, k ∈ L' ↔ k ∈ unl n (listed.setIfInBounds j true)) ∧ ∃ d', Qp0 P ty ops b c j d d' ∧ Qkx P ty ops b c L' d' (Q .normal) := by
      intro L' hL'
      obtain ⟨L, hL, hp⟩ := List.mem_filterMap.1 hL'
      obtain ⟨r1, r2⟩ := hR L hL
      obtain ⟨L2, e1, e2, e3, e4, e5⟩ := Qm4 hT hpc L [] L' (unl n listed) d hp hgood hUn (fun k hk => (r2 k).1 hk) r1 (hch L hL)
      simp only [List.reverse_nil, List.nil_append] at e1
      subst e1
      refine ⟨⟨e3, fun k => ?_⟩, e5⟩
      rw [Qpr hsz hlt, List.mem_filter, e2, r2]
      simp
    have key2 : ∃ d', Qp0 P ty ops b c j d d' ∧ ∀ L' ∈ Qp5 ops c j R, (L'.Nodup ∧ ∀ k, k ∈ L' ↔ k ∈ unl n (listed.setIfInBounds j true)) ∧ Qkx P ty ops b c L' d' (Q .normal) := by
      cases hn' : Qp5 ops c j R with
      | nil => rw [hn'] at hne; simp at hne
      | cons L0 R0 =>
        unfold Qp5 at hn'
        split at hn'
        · rename_i hda
          rw [hn'] at key
          obtain ⟨_, d0, k1, k2⟩ := key L0 (List.mem_cons_self ..)
          refine ⟨d0, k1, fun L' hL' => ?_⟩
          obtain ⟨m1, d', m2, m3⟩ := key L' hL'
          have : d' = d0 := by
            obtain ⟨o1, q1, q2⟩ := k1
            obtain ⟨o2, q3, q4⟩ := m2
            rw [q1] at q3
            cases q3
            have hdo : Xf0 o1 = true := by
              unfold Xho at hda
              rw [q1] at hda
              exact hda
            by_cases hjc : j = c
            · rw [if_pos hjc] at q2 q4
              exact Qr4 hdo q4 q2
            · rw [if_neg hjc] at q2 q4
              obtain ⟨s1, t1, rfl⟩ := q2
              obtain ⟨s3, t3, rfl⟩ := q4
              rw [Qr4 hdo t3 t1]
          rw [this] at m3
          exact ⟨m1, m3⟩
        · have hm : ∀ L' ∈ L0 :: R0, L' ∈ R.filterMap (Qsp ops c j []) := fun L' hL' => by rw [← hn'] at hL'; exact List.mem_of_mem_take hL'
          have hR0 : R0 = [] := by
            have := congrArg List.length hn'
            simp only [List.length_take, List.length_cons] at this
            exact List.length_eq_zero_iff.1 (by omega)
          subst hR0
          obtain ⟨m1, d0, k1, k2⟩ := key L0 (hm L0 (List.mem_cons_self ..))
          refine ⟨d0, k1, fun L' hL' => ?_⟩
          rw [List.mem_singleton.1 hL']
          exact ⟨m1, k2⟩
    obtain ⟨d', hst, hall'⟩ := key2
    obtain ⟨oj', hoj', hst⟩ := hst
    rw [hoj] at hoj'
    cases hoj'
    unfold wpOp
    simp only [hoj]
    refine Qlw hT hUn hl hb hr hU hjU (fun hjc => hpc oj (hjc ▸ hoj)) hst fun g' a' w' k1 k2 k3 k4 => ?_
    exact ih _ (Qp5 ops c j R) g' d' a' w' hcov' (fun L' hL' => (hall' L' hL').1) k2 k3 k1 (by rw [Qpr hsz hlt]; exact k4) (by simpa using hsz) (fun L' hL' => (hall' L' hL').2)
def Qyd (P : Program) (ty : Ty) (ops : Array Oper) (b c : Nat) : List Nat → St → (St → Prop) → Prop
  | [], s, K => K s
  | i :: L, s, K => match ops[i]? with
    | none => False
    | some o => if i = c then vop P ty ops o s (fun s' => Qyd P ty ops b c L s' K) else vop P ty ops o (s.win (lo b i) (hi b i)) fun s' => Qyd P ty ops b c L (s'.nm s.nx) K
theorem Qkm {b c : Nat} {K : St → Prop} : ∀ (L : List Nat) (s : St), Qyd P ty ops b c L s K → Qkx P ty ops b c L s K
  | [], s, h => h
  | i :: L, s, h => by
    unfold Qyd at h
    split at h
    · exact h.elim
    · rename_i o ho
      split at h
      · rename_i hic
        obtain ⟨s', h1, h2⟩ := Xa8.1 h
        exact ⟨s', ⟨o, ho, by rw [if_pos hic]; exact h1⟩, Qkm L s' h2⟩
      · rename_i hic
        obtain ⟨s', h1, h2⟩ := Xa8.1 h
        exact ⟨s'.nm s.nx, ⟨o, ho, by rw [if_neg hic]; exact ⟨s', h1, rfl⟩⟩, Qkm L _ h2⟩
def Qwt (P : Program) (ty : Ty) (ops : Array Oper) (b c : Nat) (L : List Nat) (top : Option Nat) (K : St → Prop) (s : St) : Prop := match top with
  | none => Qyd P ty ops b c L s K
  | some n => Qyd P ty ops b c L (s.nm n) K
def Xe9 (P : Program) (ty : Ty) (ops : Array Oper) (b c i : Nat) (own : Bool) (o : Option Oper) (L : List Nat) (s : St) (K : St → Prop) : Prop := match o, own with
  | none, _ => False
  | some o, true => Qb5 P ty ops [o] s (Qwt P ty ops b c L none K)
  | some o, false => Qb5 P ty ops [o] (s.win (b + i * 64) (b + (i + 1) * 64)) (Qwt P ty ops b c L (some s.nx) K)
theorem Xc6 {b c : Nat} {K : St → Prop} : Qyd P ty ops b c [] s K = K s := rfl
theorem Xat {b c i : Nat} {l : List Oper} {L : List Nat} {K : St → Prop} : Qyd P ty l.toArray b c (i :: L) s K = Xe9 P ty l.toArray b c i (Nat.beq i c) l[i]? L s K := by
  have : l.toArray[i]? = l[i]? := by simp
  simp only [Qyd, this]
  cases l[i]? with
  | none => cases Nat.beq i c <;> rfl
  | some o =>
    by_cases h : i = c
    · subst h
      rw [Nat.beq_refl]
      show (if i = i then _ else _) = _
      rw [if_pos rfl]
      rfl
    · have hb : Nat.beq i c = false := by
        cases hh : Nat.beq i c with
        | false => rfl
        | true => exact absurd (Nat.eq_of_beq_eq_true hh) h
      rw [hb]
      show (if i = c then _ else _) = _
      rw [if_neg h]
      rfl
theorem Xas {b c i : Nat} {o : Oper} {L : List Nat} {K : St → Prop} : Xe9 P ty ops b c i true (some o) L s K = Qb5 P ty ops [o] s (Qwt P ty ops b c L none K) := rfl
theorem Xaj {b c i : Nat} {o : Oper} {L : List Nat} {K : St → Prop} {tm : Nat → VV} {H : Qbi} {nx N : Nat} {lim : Option Nat} : Xe9 P ty ops b c i false (some o) L ⟨tm, H, nx, N, lim⟩ K = Qb5 P ty ops [o] ⟨tm, H, b + i * 64, N, some (b + (i + 1) * 64)⟩ (Qwt P ty ops b c L (some nx) K) := rfl
theorem Xcy {b c : Nat} {L : List Nat} {K : St → Prop} {tm : Nat → VV} {H : Qbi} {nx N : Nat} {lim : Option Nat} : Qwt P ty ops b c L none K ⟨tm, H, nx, N, lim⟩ = Qyd P ty ops b c L ⟨tm, H, nx, N, lim⟩ K := rfl
theorem Xa3 {b c t : Nat} {L : List Nat} {K : St → Prop} {tm : Nat → VV} {H : Qbi} {nx N : Nat} {lim : Option Nat} : Qwt P ty ops b c L (some t) K ⟨tm, H, nx, N, lim⟩ = Qyd P ty ops b c L ⟨tm, H, t, N, none⟩ K := rfl
def Xfr (P : Program) (ty : Ty) (ops : Array Oper) (b c : Nat) : List (List Nat) → St → (St → Prop) → Prop
  | [], _, _ => True
  | L :: R, s, K => Qyd P ty ops b c L s K ∧ Xfr P ty ops b c R s K
theorem Qn8 {b c : Nat} {K : St → Prop} : ∀ {R : List (List Nat)}, Xfr P ty ops b c R s K → ∀ L ∈ R, Qyd P ty ops b c L s K
  | [], _, L, h => by simp at h
  | L0 :: R, h, L, hL => by
    rcases List.mem_cons.1 hL with rfl | hL
    · exact h.1
    · exact Qn8 h.2 L hL
def Xhu (ops : Array Oper) (c : Nat) (R : List (List Nat)) : Bool := Xg9 ops c ops.size [(Array.replicate ops.size false, R)] && R.all (fun L => decide L.Nodup && L.all (fun k => decide (k < ops.size)) && (List.range ops.size).all fun k => L.contains k) && (match ops[c]? with | some o => Qd4 o | none => true)
theorem Qa1 (hT : Qeo P ty) (hm : P.follows .mixedOrders = true) {id : Nat} {l : List Oper} {Q : Exit → St → Prop} {tm : Nat → VV} {H : Qbi} {nx N : Nat} (c : Nat) (R : List (List Nat)) (hok : Xhu l.toArray c R = true)
    (h : Xfr P ty l.toArray nx c R ⟨tm, H, nx + l.length * 64, N, none⟩ (Q .normal)) : VWP P E (.region id l.toArray true) Q ⟨tm, H, nx, N, none⟩ := by
  intro g a w hr
  refine wp_region_any hm ?_
  simp only [Xhu, Bool.and_eq_true] at hok
  obtain ⟨⟨h1, h2⟩, h3⟩ := hok
  have h1 := Qs5 h1 (Array.replicate l.toArray.size false, R) (List.mem_singleton.2 rfl)
  have hall : unl l.toArray.size (Array.replicate l.toArray.size false) = List.range l.toArray.size := by
    refine List.filter_eq_self.2 fun i hi => ?_
    have : i < l.length := by simpa using List.mem_range.1 hi
    simp [this]
  have hun : ∀ T, nx ≤ T → g.sn T = false := fun T hT => hr.fresh T ⟨hT, trivial⟩
  refine anyK hT (b := nx) (n := l.toArray.size) (c := c) rfl (fun o ho => by rw [ho] at h3; exact h3) _ _ R g ⟨tm, H, nx + l.length * 64, N, none⟩ a _ h1 (fun L hL => ?_) rfl (by simp) ?_ (fun i _ _ T t1 _ => hun T (by unfold lo at t1; omega)) (by simp) (fun L hL => Qkm L _ (Qn8 h L hL))
  · have := List.all_eq_true.1 h2 L hL
    simp only [Bool.and_eq_true, decide_eq_true_eq, List.all_eq_true, List.mem_range, List.contains_eq_mem] at this
    obtain ⟨⟨k1, k2⟩, k3⟩ := this
    refine ⟨k1, fun k => ?_⟩
    rw [hall, List.mem_range]
    exact ⟨k2 k, k3 k⟩
  · exact ⟨hr.size, hr.defers, hr.heap.drew, fun T hT => hr.fresh T ⟨Nat.le_trans (Nat.le_add_right _ _) hT.1, trivial⟩, hr.tmps, hr.pin⟩
end
attribute [go_sem] Xc6 Xat Xas Xaj Xcy Xa3 Nat.beq
end Go.Proofs.YtmiojnibngncaaaGreat
namespace Go.Proofs.YtmiojnibngncaaaGreat
open Go Go.RowKit
set_option linter.unusedVariables false
set_option linter.unusedSimpArgs false
set_option maxRecDepth 100000
set_option maxHeartbeats 4000000
attribute [local irreducible] VWP Qb5 Qbn Qbs Qbu Qbj Qbt Qa3 Qbq Qcq Qc6 Qbk Qdb Qc4 Qbr Qbm Qa8
theorem Qe7 (xs ys : List FrameD) (f : FrameD) : (Qaq (xs ++ f :: ys))[xs.length]? = some [.int .i64 f.desc, .int .i64 f.phase, .int .i64 f.place] := Qe1 (by simp)
theorem Qe4 (xs ys : List FrameD) (f g : FrameD) : (Qaq (xs ++ f :: ys)).set xs.length [.int .i64 g.desc, .int .i64 g.phase, .int .i64 g.place] = Qaq (xs ++ g :: ys) := by
  rw [Xcn]
  simp
theorem Qed (xs ys : List FrameD) (f : FrameD) (m : Int) : (Qaq (xs ++ f :: ys)).take (xs.length + 1) ++ [[.int .i64 m, .int .i64 0, .int .i64 0]] = Qaq (xs ++ [f, ⟨m, 0, 0⟩]) := by
  have : xs ++ f :: ys = (xs ++ [f]) ++ ys := by simp
  rw [this, show Qaq ((xs ++ [f]) ++ ys) = Qaq (xs ++ [f]) ++ Qaq ys by simp [Qaq], List.take_left' (by simp [Qaq])]
  simp [Qaq, FrameD.enc]
theorem Qwi (s : StoreD) (junk : List FrameD) (hs : s.small) :
    SatO Tryz.prog 158 [.agg [.rf 0 s.heads.length, .rf 1 s.descs.length], .rf 2 0] [.root 151 (Qat s.heads), .root 89 (Qar 91 s.descs), .root 160 (Qaq junk)]
      (.rf 2 0) [.root 151 (Qat s.heads), .root 89 (Qar 91 s.descs), .root 160 (Qaq junk)] := by
  refine wEo Tryz.func158 [.tmp 4] 49 3 ⟨⟨rfl, Qaf _⟩, ⟨rfl, Qae _ _⟩, ⟨rfl, Qah _⟩, by simp [Qbc]⟩ fun E hE => ?_
  have hneg : IntKind.i64.wrap (((0 : Nat) : Int) - 1) = -1 := by decide
  have hneg2 : IntKind.i64.wrap ((0 : Int) - 1) = -1 := by decide
  have F := wwA @Qad (wwA @Qab (wwA @Qag (wwA hneg hneg2)))
  repeat' first | refine wSq fun _ hK => ?_ | refine ww1 ?_ | (refine wK ?_; clear hK) | (simp only [wHb, reduceCtorEq] at hb <;> try (exfalso; omega)) | refine Qcf (fun hb => ?_) fun hb => ?_ | refine Qce ?_ | refine ww4 ?_ | refine Qcc (fun hb => ?_) fun hb => ?_ | exact trivial
  refine Qbf [] rfl [.root 151 (Qat s.heads), .root 89 (Qar 91 s.descs), .root 160 (Qaq junk)] rfl (by simp [Qbx, Qbd, HpE]) rfl (by simp only [go_sem, Qcd]; rfl) (acc := []) rfl (by simp) rfl
theorem Xbg (s : StoreD) (init junk : List FrameD) (f : FrameD) (k : Nat) (d : DescS) (j : Nat) (e : EntS) (o : Nat) (h : HeadD) (ha : AtP s f k d j e o h) (hv0 : 0 ≤ h.version) (hv1 : h.version ≤ 1000000) (hs : s.small) (r : StoreD × FrameD × Int) (hr : Qa5 s f k d e o h = r) (hm : 0 ≤ r.2.2) (hn : init.length + 1 = 130) :
    SatO Tryz.prog 158 [.agg [.rf 0 s.heads.length, .rf 1 s.descs.length], .rf 2 (init.length + 1)] [.root 151 (Qat s.heads), .root 89 (Qar 91 s.descs), .root 160 (Qaq (init ++ f :: junk))]
      (.rf 2 (init.length + 1)) [.root 151 (Qat r.1.heads), .root 89 (Qar 91 r.1.descs), .root 160 (Qaq (init ++ f :: junk))] := by
  have hl := Qh2 s f k d j e o h ha hv0 hv1 hs r hr
  have hsub : IntKind.i64.wrap (((init.length + 1 : Nat) : Int) - 1) = init.length := by rw [Qax (by omega)]; omega
  have hadd : IntKind.i64.wrap ((init.length : Int) + 1) = init.length + 1 := Qax (by omega)
  have hk0 : (0 : Int) ≤ (init.length : Nat) := by omega
  have hlt : init.length < (init ++ f :: junk).length := by simp
  have hmid := Qe7 init junk f
  have hput := Qe4 init junk f r.2.1
  have hmore := Qed init junk r.2.1 r.2.2
  have hle : init.length + 1 ≤ (init ++ f :: junk).length := by simp
  have hle2 : init.length + 1 ≤ (init ++ r.2.1 :: junk).length := by simp
  have hle3 : init.length + 1 + 1 ≤ (init ++ [r.2.1, ⟨r.2.2, 0, 0⟩]).length := by simp
  have hle4 : init.length ≤ (init ++ r.2.1 :: junk).length := by simp
  have hle5 := hle
  have t6 : (Qaq (init ++ [r.2.1, ⟨r.2.2, 0, 0⟩])).take (init.length + 1 + 1) = Qaq (init ++ [r.2.1, ⟨r.2.2, 0, 0⟩]) := by rw [List.take_of_length_le (by rw [Qag]; simp)]
  have hnq : ((init.length : Int) + 1 == 130) = true := by simp; omega
  refine wEo Tryz.func158 [.tmp 4] 49 3 ⟨⟨rfl, Qaf _⟩, ⟨rfl, Qae _ _⟩, ⟨rfl, Qah _⟩, by simp [Qbc, Qbg, Qah]⟩ fun E hE => ?_
  unfold FrameD.cells at hl
  have F := wwA @Qad (wwA @Qab (wwA @Qag (wwA @Qaf (wwA @Qae (wwA hsub (wwA hadd (wwA hk0 (wwA hlt (wwA hmid (wwA hput (wwA hmore (wwA hle (wwA hle2 (wwA hle4 (wwA @Nat.le_refl (wwA hm hnq))))))))))))))))
  repeat' first | refine wSq fun _ hK => ?_ | refine Qa1 hT hM (id := 4) 5 [[0,1,2,3,4,5,6,7,8,9,10,11],[0,1,2,3,4,9,5,6,7,8,10,11]] (by kernel_rfl) ?_ | refine ww1 ?_ | (refine wK ?_; clear hK) | (simp only [wHb, reduceCtorEq] at hb <;> try (exfalso; omega)) | (refine Qaz true ?_ ?_ (fun hh => nomatch hh); focus (simp only [go_sem, F]; done); intro _) | (refine Qaz false ?_ (fun hh => nomatch hh) ?_; focus (simp only [go_sem, F]; done); intro _) | refine wCd (fun hb => ?_) fun hb => ?_ | refine wOw [0, 1] (c := by exact hl) (k := ?_) | refine ww3 ?_ | refine ww4 ?_ | refine wGd (fun hb => ?_) fun hb => ?_ | refine And.intro ?_ ?_ | exact trivial
  all_goals skip
  all_goals refine Qbf [] rfl [.root 151 (Qat r.1.heads), .root 89 (Qar 91 r.1.descs), .root 160 (Qaq (init ++ f :: junk))] rfl (by simp [Qbx, Qbd, HpE, hput]) rfl (by simp only [go_sem, Qcd]; rfl) (acc := _) (by simp only [go_sem, wrap, Qtw, Qtx, Qov, Qag, Nat.le_refl, hle3, hle4, hle5, t6]; try rfl) (by simp) (by simp [Qcz])
theorem Xbq (s : StoreD) (init junk : List FrameD) (f : FrameD) (k : Nat) (d : DescS) (j : Nat) (e : EntS) (o : Nat) (h : HeadD) (ha : AtP s f k d j e o h) (hv0 : 0 ≤ h.version) (hv1 : h.version ≤ 1000000) (hs : s.small) (r : StoreD × FrameD × Int) (hr : Qa5 s f k d e o h = r) (hm : 0 ≤ r.2.2) (hn : init.length + 1 < 130) :
    SatO Tryz.prog 158 [.agg [.rf 0 s.heads.length, .rf 1 s.descs.length], .rf 2 (init.length + 1)] [.root 151 (Qat s.heads), .root 89 (Qar 91 s.descs), .root 160 (Qaq (init ++ f :: junk))]
      (.rf 3 (init.length + 1 + 1)) [.root 151 (Qat r.1.heads), .root 89 (Qar 91 r.1.descs), .dead, .root 160 (Qaq (init ++ [r.2.1, ⟨r.2.2, 0, 0⟩]))] := by
  have hl := Qh2 s f k d j e o h ha hv0 hv1 hs r hr
  have hsub : IntKind.i64.wrap (((init.length + 1 : Nat) : Int) - 1) = init.length := by rw [Qax (by omega)]; omega
  have hadd : IntKind.i64.wrap ((init.length : Int) + 1) = init.length + 1 := Qax (by omega)
  have hk0 : (0 : Int) ≤ (init.length : Nat) := by omega
  have hlt : init.length < (init ++ f :: junk).length := by simp
  have hmid := Qe7 init junk f
  have hput := Qe4 init junk f r.2.1
  have hmore := Qed init junk r.2.1 r.2.2
  have hle : init.length + 1 ≤ (init ++ f :: junk).length := by simp
  have hle2 : init.length + 1 ≤ (init ++ r.2.1 :: junk).length := by simp
  have hle3 : init.length + 1 + 1 ≤ (init ++ [r.2.1, ⟨r.2.2, 0, 0⟩]).length := by simp
  have hle4 : init.length ≤ (init ++ r.2.1 :: junk).length := by simp
  have hle5 := hle
  have t6 : (Qaq (init ++ [r.2.1, ⟨r.2.2, 0, 0⟩])).take (init.length + 1 + 1) = Qaq (init ++ [r.2.1, ⟨r.2.2, 0, 0⟩]) := by rw [List.take_of_length_le (by rw [Qag]; simp)]
  have hnq : ((init.length : Int) + 1 == 130) = false := by simp; omega
  refine wEo Tryz.func158 [.tmp 4] 49 3 ⟨⟨rfl, Qaf _⟩, ⟨rfl, Qae _ _⟩, trivial, by simp [Qbc, Qbg, Qah]⟩ fun E hE => ?_
  unfold FrameD.cells at hl
  have F := wwA @Qad (wwA @Qab (wwA @Qag (wwA @Qaf (wwA @Qae (wwA hsub (wwA hadd (wwA hk0 (wwA hlt (wwA hmid (wwA hput (wwA hmore (wwA hle (wwA hle2 (wwA hle4 (wwA @Nat.le_refl (wwA hm hnq))))))))))))))))
  repeat' first | refine wSq fun _ hK => ?_ | refine Qa1 hT hM (id := 4) 5 [[0,1,2,3,4,5,6,7,8,9,10,11],[0,1,2,3,4,9,5,6,7,8,10,11]] (by kernel_rfl) ?_ | refine ww1 ?_ | (refine wK ?_; clear hK) | (simp only [wHb, reduceCtorEq] at hb <;> try (exfalso; omega)) | (refine Qaz true ?_ ?_ (fun hh => nomatch hh); focus (simp only [go_sem, F]; done); intro _) | (refine Qaz false ?_ (fun hh => nomatch hh) ?_; focus (simp only [go_sem, F]; done); intro _) | refine wCd (fun hb => ?_) fun hb => ?_ | refine wOw [0, 1] (c := by exact hl) (k := ?_) | refine ww3 ?_ | refine ww4 ?_ | refine wGd (fun hb => ?_) fun hb => ?_ | refine And.intro ?_ ?_ | exact trivial
  all_goals skip
  all_goals refine Qbf [] rfl [.root 151 (Qat r.1.heads), .root 89 (Qar 91 r.1.descs), .dead] rfl (by simp [Qbx, Qbd, HpE, hput]) rfl (by simp only [go_sem, Qcd]; rfl) (acc := _) (by simp only [go_sem, wrap, Qtw, Qtx, Qov, Qag, Nat.le_refl, hle3, hle4, hle5, t6]; try rfl) (by simp) (by simp [Qcz])
theorem Qv0 (s : StoreD) (init junk : List FrameD) (f : FrameD) (k : Nat) (d : DescS) (j : Nat) (e : EntS) (o : Nat) (h : HeadD) (ha : AtP s f k d j e o h) (hv0 : 0 ≤ h.version) (hv1 : h.version ≤ 1000000) (hs : s.small) (r : StoreD × FrameD × Int) (hr : Qa5 s f k d e o h = r) (hm : ¬ 0 ≤ r.2.2) (h5 : r.2.1.phase = 5) (hn : init.length + 1 ≤ 130) :
    SatO Tryz.prog 158 [.agg [.rf 0 s.heads.length, .rf 1 s.descs.length], .rf 2 (init.length + 1)] [.root 151 (Qat s.heads), .root 89 (Qar 91 s.descs), .root 160 (Qaq (init ++ f :: junk))]
      (.rf 2 init.length) [.root 151 (Qat r.1.heads), .root 89 (Qar 91 r.1.descs), .root 160 (Qaq (init ++ r.2.1 :: junk))] := by
  have hl := Qh2 s f k d j e o h ha hv0 hv1 hs r hr
  have hsub : IntKind.i64.wrap (((init.length + 1 : Nat) : Int) - 1) = init.length := by rw [Qax (by omega)]; omega
  have hadd : IntKind.i64.wrap ((init.length : Int) + 1) = init.length + 1 := Qax (by omega)
  have hk0 : (0 : Int) ≤ (init.length : Nat) := by omega
  have hlt : init.length < (init ++ f :: junk).length := by simp
  have hmid := Qe7 init junk f
  have hput := Qe4 init junk f r.2.1
  have hmore := Qed init junk r.2.1 r.2.2
  have hle : init.length + 1 ≤ (init ++ f :: junk).length := by simp
  have hle2 : init.length + 1 ≤ (init ++ r.2.1 :: junk).length := by simp
  have hle3 : init.length + 1 + 1 ≤ (init ++ [r.2.1, ⟨r.2.2, 0, 0⟩]).length := by simp
  have hle4 : init.length ≤ (init ++ r.2.1 :: junk).length := by simp
  have hle5 := hle
  have t6 : (Qaq (init ++ [r.2.1, ⟨r.2.2, 0, 0⟩])).take (init.length + 1 + 1) = Qaq (init ++ [r.2.1, ⟨r.2.2, 0, 0⟩]) := by rw [List.take_of_length_le (by rw [Qag]; simp)]
  have h5q : (r.2.1.phase == 5) = true := by simp [h5]
  refine wEo Tryz.func158 [.tmp 4] 49 3 ⟨⟨rfl, Qaf _⟩, ⟨rfl, Qae _ _⟩, ⟨rfl, Qah _⟩, by simp [Qbc, Qbg, Qah]⟩ fun E hE => ?_
  unfold FrameD.cells at hl
  have F := wwA @Qad (wwA @Qab (wwA @Qag (wwA @Qaf (wwA @Qae (wwA hsub (wwA hadd (wwA hk0 (wwA hlt (wwA hmid (wwA hput (wwA hmore (wwA hle (wwA hle2 (wwA hle4 (wwA @Nat.le_refl (wwA hm h5q))))))))))))))))
  repeat' first | refine wSq fun _ hK => ?_ | refine Qa1 hT hM (id := 4) 5 [[0,1,2,3,4,5,6,7,8,9,10,11],[0,1,2,3,4,9,5,6,7,8,10,11]] (by kernel_rfl) ?_ | refine ww1 ?_ | (refine wK ?_; clear hK) | (simp only [wHb, reduceCtorEq] at hb <;> try (exfalso; omega)) | (refine Qaz true ?_ ?_ (fun hh => nomatch hh); focus (simp only [go_sem, F]; done); intro _) | (refine Qaz false ?_ (fun hh => nomatch hh) ?_; focus (simp only [go_sem, F]; done); intro _) | refine wCd (fun hb => ?_) fun hb => ?_ | refine wOw [0, 1] (c := by exact hl) (k := ?_) | refine ww3 ?_ | refine ww4 ?_ | refine wGd (fun hb => ?_) fun hb => ?_ | refine And.intro ?_ ?_ | exact trivial
  all_goals skip
  all_goals refine Qbf [] rfl [.root 151 (Qat r.1.heads), .root 89 (Qar 91 r.1.descs), .root 160 (Qaq (init ++ r.2.1 :: junk))] rfl (by simp [Qbx, Qbd, HpE, hput]) rfl (by simp only [go_sem, Qcd]; rfl) (acc := _) (by simp only [go_sem, wrap, Qtw, Qtx, Qov, Qag, Nat.le_refl, hle3, hle4, hle5, t6]; try rfl) (by simp) (by simp [Qcz])
theorem Xdm (s : StoreD) (init junk : List FrameD) (f : FrameD) (k : Nat) (d : DescS) (j : Nat) (e : EntS) (o : Nat) (h : HeadD) (ha : AtP s f k d j e o h) (hv0 : 0 ≤ h.version) (hv1 : h.version ≤ 1000000) (hs : s.small) (r : StoreD × FrameD × Int) (hr : Qa5 s f k d e o h = r) (hm : ¬ 0 ≤ r.2.2) (h5 : ¬ r.2.1.phase = 5) (hn : init.length + 1 ≤ 130) :
    SatO Tryz.prog 158 [.agg [.rf 0 s.heads.length, .rf 1 s.descs.length], .rf 2 (init.length + 1)] [.root 151 (Qat s.heads), .root 89 (Qar 91 s.descs), .root 160 (Qaq (init ++ f :: junk))]
      (.rf 2 (init.length + 1)) [.root 151 (Qat r.1.heads), .root 89 (Qar 91 r.1.descs), .root 160 (Qaq (init ++ r.2.1 :: junk))] := by
  have hl := Qh2 s f k d j e o h ha hv0 hv1 hs r hr
  have hsub : IntKind.i64.wrap (((init.length + 1 : Nat) : Int) - 1) = init.length := by rw [Qax (by omega)]; omega
  have hadd : IntKind.i64.wrap ((init.length : Int) + 1) = init.length + 1 := Qax (by omega)
  have hk0 : (0 : Int) ≤ (init.length : Nat) := by omega
  have hlt : init.length < (init ++ f :: junk).length := by simp
  have hmid := Qe7 init junk f
  have hput := Qe4 init junk f r.2.1
  have hmore := Qed init junk r.2.1 r.2.2
  have hle : init.length + 1 ≤ (init ++ f :: junk).length := by simp
  have hle2 : init.length + 1 ≤ (init ++ r.2.1 :: junk).length := by simp
  have hle3 : init.length + 1 + 1 ≤ (init ++ [r.2.1, ⟨r.2.2, 0, 0⟩]).length := by simp
  have hle4 : init.length ≤ (init ++ r.2.1 :: junk).length := by simp
  have hle5 := hle
  have t6 : (Qaq (init ++ [r.2.1, ⟨r.2.2, 0, 0⟩])).take (init.length + 1 + 1) = Qaq (init ++ [r.2.1, ⟨r.2.2, 0, 0⟩]) := by rw [List.take_of_length_le (by rw [Qag]; simp)]
  have h5q : (r.2.1.phase == 5) = false := by simpa using h5
  refine wEo Tryz.func158 [.tmp 4] 49 3 ⟨⟨rfl, Qaf _⟩, ⟨rfl, Qae _ _⟩, ⟨rfl, Qah _⟩, by simp [Qbc, Qbg, Qah]⟩ fun E hE => ?_
  unfold FrameD.cells at hl
  have F := wwA @Qad (wwA @Qab (wwA @Qag (wwA @Qaf (wwA @Qae (wwA hsub (wwA hadd (wwA hk0 (wwA hlt (wwA hmid (wwA hput (wwA hmore (wwA hle (wwA hle2 (wwA hle4 (wwA @Nat.le_refl (wwA hm h5q))))))))))))))))
  repeat' first | refine wSq fun _ hK => ?_ | refine Qa1 hT hM (id := 4) 5 [[0,1,2,3,4,5,6,7,8,9,10,11],[0,1,2,3,4,9,5,6,7,8,10,11]] (by kernel_rfl) ?_ | refine ww1 ?_ | (refine wK ?_; clear hK) | (simp only [wHb, reduceCtorEq] at hb <;> try (exfalso; omega)) | (refine Qaz true ?_ ?_ (fun hh => nomatch hh); focus (simp only [go_sem, F]; done); intro _) | (refine Qaz false ?_ (fun hh => nomatch hh) ?_; focus (simp only [go_sem, F]; done); intro _) | refine wCd (fun hb => ?_) fun hb => ?_ | refine wOw [0, 1] (c := by exact hl) (k := ?_) | refine ww3 ?_ | refine ww4 ?_ | refine wGd (fun hb => ?_) fun hb => ?_ | refine And.intro ?_ ?_ | exact trivial
  all_goals skip
  all_goals refine Qbf [] rfl [.root 151 (Qat r.1.heads), .root 89 (Qar 91 r.1.descs), .root 160 (Qaq (init ++ r.2.1 :: junk))] rfl (by simp [Qbx, Qbd, HpE, hput]) rfl (by simp only [go_sem, Qcd]; rfl) (acc := _) (by simp only [go_sem, wrap, Qtw, Qtx, Qov, Qag, Nat.le_refl, hle3, hle4, hle5, t6]; try rfl) (by simp) (by simp [Qcz])
def vNil (s : St) (x : VV) : Option VV := match x with
  | .bp T j => if (s.H T).live then some (.bp T j) else none
  | .fp r => some (.fp r)
  | .np T i j => if (s.H T).isRoot then some (.np T i j) else none
  | _ => none
theorem Qba {P : Program} {ty : Ty} {ops : Array Oper} {s : St} {K : St → Prop} {d : Nat} {x : Operand} {t : TypeId} {p : String} {af : Array Edge} {rest : List Oper} : Qb5 P ty ops (⟨some d, .nilCheck x, t, p, af, none⟩ :: rest) s K = Qcq P ty ops rest K s d (vNil s (ev s x)) := Qc7 rfl rfl
theorem Qct {tm : Nat → VV} {H : Qbi} {nx N : Nat} {lim : Option Nat} {T j : Nat} : vNil ⟨tm, H, nx, N, lim⟩ (.bp T j) = if (H T).live then some (.bp T j) else none := rfl
theorem Xe3 {s : St} {r : List PT} : vNil s (.fp r) = some (.fp r) := rfl
theorem Xe6 {tm : Nat → VV} {H : Qbi} {nx N : Nat} {lim : Option Nat} {T i j : Nat} : vNil ⟨tm, H, nx, N, lim⟩ (.np T i j) = if (H T).isRoot then some (.np T i j) else none := rfl
attribute [go_sem] Qba Qct Xe3 Xe6
theorem Xh1 (s : StoreD) (f : FrameD) (k : Nat) (d : DescS) (j : Nat) (e : EntS) (o : Nat) (h : HeadD) (ha : AtP s f k d j e o h) (hv0 : 0 ≤ h.version) (hv1 : h.version ≤ 1000000) (hs : s.small) (hph : f.phase = 1) (r : StoreD × FrameD × Int) (hr : Qa5 s f k d e o h = r) :
    SatO Tryz.prog 196 [.bp 0 0, .agg f.cells] [.box [.rf 1 s.heads.length, .rf 2 s.descs.length], .root 151 (Qat s.heads), .root 89 (Qar 91 s.descs)]
      (.tup [.agg r.2.1.cells, .int .i64 r.2.2]) [.box [.rf 1 s.heads.length, .rf 2 s.descs.length], .root 151 (Qat r.1.heads), .root 89 (Qar 91 r.1.descs)] := by
  obtain ⟨hk, hd, hj, he, heo, hho⟩ := ha
  obtain ⟨f1, f2, f3⟩ := hs
  have hkl := (List.getElem?_eq_some_iff.1 hd).1
  have hjl := (List.getElem?_eq_some_iff.1 he).1
  have hol := (List.getElem?_eq_some_iff.1 hho).1
  have hde := f3 d (List.mem_of_getElem? hd)
  have hk0 : (0 : Int) ≤ (k : Nat) := by omega
  have hj0 : (0 : Int) ≤ (j : Nat) := by omega
  have ho0 : (0 : Int) ≤ (o : Nat) := by omega
  have hrd := Qbl (te := 91) hd
  have hre := Qbe he
  have hrh := Qb0 hho
  have hkr : k < (Qar 91 s.descs).length := by rw [Qab]; exact hkl
  have hor : o < (Qat s.heads).length := by rw [Qad]; exact hol
  have hbk := Qh9 (te := 91) hd
  rw [heo] at hre
  have p0 : ¬ f.phase = 0 := by omega
  refine wEo Tryz.func196 [.cell 4 160, .tmp 5] 75 3 ⟨⟨rfl, rfl⟩, ⟨rfl, Qaf _⟩, ⟨rfl, Qae _ _⟩, by simp [Qbc]⟩ fun E hE => ?_
  unfold FrameD.cells
  by_cases c1 : h.desc = f.desc
  · have hm : Qa5 s f k d e o h = (s, Qc5 d.entries.length f 2, -1) := by rw [Qa5, if_neg p0, if_pos hph, if_pos c1]
    rw [hm] at hr
    subst hr
    have c1q : (h.desc == (k : Int)) = true := by simp [c1, hk]
    have hnx := Qhm s f 2 k d hk hd (by omega) (by omega) ⟨f1, f2, f3⟩
    unfold StoreD.cells FrameD.cells at hnx
    rw [hk, hj, hph] at hnx
    have F := wwA @Qba (wwA @Qct (wwA @Qab (wwA @Qaa (wwA @Qad (wwA hk (wwA hj (wwA hk0 (wwA hj0 (wwA ho0 (wwA hkl (wwA hjl (wwA hol (wwA hrd (wwA hre (wwA hrh (wwA hkr (wwA hor (wwA (fun a => List.getElem?_set_self (a := a) hkr) (wwA @List.length_set.{0} (wwA @Nat.le_refl (wwA @Nat.le_add_right (wwA hph (wwA c1q (wwA hbk (wwA @Qai (wwA @Qaf (wwA @Qaj (wwA @Qae (wwA @Qak @List.set_set.{0})))))))))))))))))))))))))))))
    repeat' first | refine wSq fun _ hK => ?_ | refine Ql0 (id := 1) [(2, k, 2)] ?_ | refine Qzu (id := 4) [(2, k, 2)] ?_ | refine ww1 ?_ | (refine wK ?_; clear hK) | (simp only [wHb, reduceCtorEq] at hb <;> try (exfalso; omega)) | (refine Qaz true ?_ ?_ (fun hh => nomatch hh); focus (simp only [go_sem, Int.reduceBEq, Int.reduceBNe, Int.reduceLT, Int.reduceLE, Int.reduceAdd, Int.reduceToNat, F]; done); intro _) | (refine Qaz false ?_ (fun hh => nomatch hh) ?_; focus (simp only [go_sem, Int.reduceBEq, Int.reduceBNe, Int.reduceLT, Int.reduceLE, Int.reduceAdd, Int.reduceToNat, F]; done); intro _) | refine Qcf (fun hb => ?_) fun hb => ?_ | refine Qgs (c := by first | exact hnx) (k := ?_) | refine Qce ?_ | refine ww4 ?_ | refine Qcc (fun hb => ?_) fun hb => ?_ | exact trivial
    refine Qbf [] rfl [.box [.rf 1 s.heads.length, .rf 2 s.descs.length], .root 151 (Qat s.heads), .root 89 (Qar 91 s.descs)] rfl (by simp [Qbx, Qbd, HpE, Qa2, hbk]) rfl (by simp only [go_sem, Qcd]; rfl) (acc := []) rfl (by simp) rfl
  have c1q : (h.desc == (k : Int)) = false := by rw [beq_eq_false_iff_ne, ← hk]; exact c1
  by_cases c2 : 0 ≤ h.desc
  · have hm : Qa5 s f k d e o h = (s, ⟨f.desc, 0, 0⟩, h.desc) := by rw [Qa5, if_neg p0, if_pos hph, if_neg c1, if_pos c2]
    rw [hm] at hr
    subst hr
    have c2q : decide (0 ≤ h.desc) = true := decide_eq_true c2
    have F := wwA @Qba (wwA @Qct (wwA @Qab (wwA @Qaa (wwA @Qad (wwA hk (wwA hj (wwA hk0 (wwA hj0 (wwA ho0 (wwA hkl (wwA hjl (wwA hol (wwA hrd (wwA hre (wwA hrh (wwA hkr (wwA hor (wwA (fun a => List.getElem?_set_self (a := a) hkr) (wwA @List.length_set.{0} (wwA @Nat.le_refl (wwA @Nat.le_add_right (wwA hph (wwA c1q (wwA c2q (wwA @Qef (wwA @Qei (wwA @Qdr (wwA @Qeg @Qfv))))))))))))))))))))))))))))
    repeat' first | refine wSq fun _ hK => ?_ | refine Ql0 (id := 1) [(2, k, 2)] ?_ | refine Qej hT hM (id := 6) (.both (.step 0 (.both (.step 1 (.both (.step 2 (.both (.step 3 (.both (.step 4 (.both (.step 5 (.both (.step 6 (.step 7 (.step 8 .done))) (.step 7 (.step 6 (.step 8 .done))))) (.step 7 (.step 5 (.step 6 (.step 8 .done)))))) (.step 7 (.step 4 (.step 5 (.step 6 (.step 8 .done))))))) (.step 7 (.step 3 (.step 4 (.step 5 (.step 6 (.step 8 .done)))))))) (.step 3 (.both (.step 2 (.both (.step 4 (.both (.step 5 (.both (.step 6 (.step 7 (.step 8 .done))) (.step 7 (.step 6 (.step 8 .done))))) (.step 7 (.step 5 (.step 6 (.step 8 .done)))))) (.step 7 (.step 4 (.step 5 (.step 6 (.step 8 .done))))))) (.step 4 (.both (.step 2 (.both (.step 5 (.both (.step 6 (.step 7 (.step 8 .done))) (.step 7 (.step 6 (.step 8 .done))))) (.step 7 (.step 5 (.step 6 (.step 8 .done)))))) (.step 5 (.both (.step 2 (.both (.step 6 (.step 7 (.step 8 .done))) (.step 7 (.step 6 (.step 8 .done))))) (.step 6 (.step 2 (.step 7 (.step 8 .done)))))))))))) (.step 3 (.both (.step 1 (.both (.step 2 (.both (.step 4 (.both (.step 5 (.both (.step 6 (.step 7 (.step 8 .done))) (.step 7 (.step 6 (.step 8 .done))))) (.step 7 (.step 5 (.step 6 (.step 8 .done)))))) (.step 7 (.step 4 (.step 5 (.step 6 (.step 8 .done))))))) (.step 4 (.both (.step 2 (.both (.step 5 (.both (.step 6 (.step 7 (.step 8 .done))) (.step 7 (.step 6 (.step 8 .done))))) (.step 7 (.step 5 (.step 6 (.step 8 .done)))))) (.step 5 (.both (.step 2 (.both (.step 6 (.step 7 (.step 8 .done))) (.step 7 (.step 6 (.step 8 .done))))) (.step 6 (.step 2 (.step 7 (.step 8 .done)))))))))) (.step 4 (.both (.step 1 (.both (.step 2 (.both (.step 5 (.both (.step 6 (.step 7 (.step 8 .done))) (.step 7 (.step 6 (.step 8 .done))))) (.step 7 (.step 5 (.step 6 (.step 8 .done)))))) (.step 5 (.both (.step 2 (.both (.step 6 (.step 7 (.step 8 .done))) (.step 7 (.step 6 (.step 8 .done))))) (.step 6 (.step 2 (.step 7 (.step 8 .done)))))))) (.step 5 (.both (.step 1 (.both (.step 2 (.both (.step 6 (.step 7 (.step 8 .done))) (.step 7 (.step 6 (.step 8 .done))))) (.step 6 (.step 2 (.step 7 (.step 8 .done)))))) (.step 6 (.step 1 (.step 2 (.step 7 (.step 8 .done))))))))))))) (.step 3 (.both (.step 0 (.both (.step 1 (.both (.step 2 (.both (.step 4 (.both (.step 5 (.both (.step 6 (.step 7 (.step 8 .done))) (.step 7 (.step 6 (.step 8 .done))))) (.step 7 (.step 5 (.step 6 (.step 8 .done)))))) (.step 7 (.step 4 (.step 5 (.step 6 (.step 8 .done))))))) (.step 4 (.both (.step 2 (.both (.step 5 (.both (.step 6 (.step 7 (.step 8 .done))) (.step 7 (.step 6 (.step 8 .done))))) (.step 7 (.step 5 (.step 6 (.step 8 .done)))))) (.step 5 (.both (.step 2 (.both (.step 6 (.step 7 (.step 8 .done))) (.step 7 (.step 6 (.step 8 .done))))) (.step 6 (.step 2 (.step 7 (.step 8 .done)))))))))) (.step 4 (.both (.step 1 (.both (.step 2 (.both (.step 5 (.both (.step 6 (.step 7 (.step 8 .done))) (.step 7 (.step 6 (.step 8 .done))))) (.step 7 (.step 5 (.step 6 (.step 8 .done)))))) (.step 5 (.both (.step 2 (.both (.step 6 (.step 7 (.step 8 .done))) (.step 7 (.step 6 (.step 8 .done))))) (.step 6 (.step 2 (.step 7 (.step 8 .done)))))))) (.step 5 (.both (.step 1 (.both (.step 2 (.both (.step 6 (.step 7 (.step 8 .done))) (.step 7 (.step 6 (.step 8 .done))))) (.step 6 (.step 2 (.step 7 (.step 8 .done)))))) (.step 6 (.step 1 (.step 2 (.step 7 (.step 8 .done))))))))))) (.step 4 (.both (.step 0 (.both (.step 1 (.both (.step 2 (.both (.step 5 (.both (.step 6 (.step 7 (.step 8 .done))) (.step 7 (.step 6 (.step 8 .done))))) (.step 7 (.step 5 (.step 6 (.step 8 .done)))))) (.step 5 (.both (.step 2 (.both (.step 6 (.step 7 (.step 8 .done))) (.step 7 (.step 6 (.step 8 .done))))) (.step 6 (.step 2 (.step 7 (.step 8 .done)))))))) (.step 5 (.both (.step 1 (.both (.step 2 (.both (.step 6 (.step 7 (.step 8 .done))) (.step 7 (.step 6 (.step 8 .done))))) (.step 6 (.step 2 (.step 7 (.step 8 .done)))))) (.step 6 (.step 1 (.step 2 (.step 7 (.step 8 .done))))))))) (.step 5 (.both (.step 0 (.both (.step 1 (.both (.step 2 (.both (.step 6 (.step 7 (.step 8 .done))) (.step 7 (.step 6 (.step 8 .done))))) (.step 6 (.step 2 (.step 7 (.step 8 .done)))))) (.step 6 (.step 1 (.step 2 (.step 7 (.step 8 .done))))))) (.step 6 (.step 0 (.step 1 (.step 2 (.step 7 (.step 8 .done))))))))))))) (by kernel_rfl) ?_ | refine ww1 ?_ | (refine wK ?_; clear hK) | (simp only [wHb, reduceCtorEq] at hb <;> try (exfalso; omega)) | (refine Qaz true ?_ ?_ (fun hh => nomatch hh); focus (simp only [go_sem, Int.reduceBEq, Int.reduceBNe, Int.reduceLT, Int.reduceLE, Int.reduceAdd, Int.reduceToNat, F]; done); intro _) | (refine Qaz false ?_ (fun hh => nomatch hh) ?_; focus (simp only [go_sem, Int.reduceBEq, Int.reduceBNe, Int.reduceLT, Int.reduceLE, Int.reduceAdd, Int.reduceToNat, F]; done); intro _) | refine Qcf (fun hb => ?_) fun hb => ?_ | refine Qce ?_ | refine ww4 ?_ | refine Qcc (fun hb => ?_) fun hb => ?_ | refine And.intro ?_ ?_ | exact trivial
    all_goals refine Qbf [(2, k, 2)] (by simp only [Qb1, Qco, go_sem, hkr, List.getElem?_set_self hkr, List.set_set, List.length_set, List.set_cons_succ, List.set_cons_zero, Qaa, Qai, Nat.le_refl, hbk, Qa2]; rfl) [.box [.rf 1 s.heads.length, .rf 2 s.descs.length], .root 151 (Qat s.heads), .root 89 (Qar 91 s.descs)] rfl (by simp [Qbx, Qbd, HpE, Qa2, hbk]) rfl (by simp only [go_sem, Qcd]; rfl) (acc := []) rfl (by simp) rfl
  have c2q : decide (0 ≤ h.desc) = false := decide_eq_false c2
  by_cases c3 : h.version = e.version
  · have hm : Qa5 s f k d e o h = (⟨s.heads.set o ⟨h.value, h.version, f.desc⟩, s.descs⟩, Qc5 d.entries.length f 2, -1) := by rw [Qa5, if_neg p0, if_pos hph, if_neg c1, if_neg c2, if_neg (by simp [c3])]
    rw [hm] at hr
    subst hr
    have c3q : (h.version != e.version) = false := by simp [c3]
    have hnx := Qhm ⟨s.heads.set o ⟨h.value, h.version, f.desc⟩, s.descs⟩ f 2 k d hk hd (by omega) (by omega) ⟨by simpa using f1, f2, f3⟩
    unfold StoreD.cells FrameD.cells at hnx
    simp only at hnx
    rw [hk, hj, hph] at hnx
    have hset := Qb7 s.heads o ⟨h.value, h.version, (k : Int)⟩
    simp only at hset
    have hpr := Qaf (s.heads.set o ⟨h.value, h.version, (k : Int)⟩)
    have htk : (Qat (s.heads.set o ⟨h.value, h.version, (k : Int)⟩)).take s.heads.length = Qat (s.heads.set o ⟨h.value, h.version, (k : Int)⟩) := by
      have := Qaj (s.heads.set o ⟨h.value, h.version, (k : Int)⟩)
      rwa [List.length_set] at this
    simp only [hk]
    have F := wwA @Qba (wwA @Qct (wwA @Qab (wwA @Qaa (wwA @Qad (wwA hk (wwA hj (wwA hk0 (wwA hj0 (wwA ho0 (wwA hkl (wwA hjl (wwA hol (wwA hrd (wwA hre (wwA hrh (wwA hkr (wwA hor (wwA (fun a => List.getElem?_set_self (a := a) hkr) (wwA @List.length_set.{0} (wwA @Nat.le_refl (wwA @Nat.le_add_right (wwA hph (wwA c1q (wwA c2q (wwA c3q (wwA hbk (wwA @Qai (wwA hpr (wwA htk (wwA @Qae (wwA @Qak (wwA @List.set_set.{0} (wwA hset (wwA @Qef (wwA @Qei (wwA @Qdr (wwA @Qeg @Qfv)))))))))))))))))))))))))))))))))))))
    repeat' first | refine wSq fun _ hK => ?_ | refine Ql0 (id := 1) [(2, k, 2)] ?_ | refine Qzu (id := 10) [(2, k, 2)] ?_ | refine Qej hT hM (id := 6) (.both (.step 0 (.both (.step 1 (.both (.step 2 (.both (.step 3 (.both (.step 4 (.both (.step 5 (.both (.step 6 (.step 7 (.step 8 .done))) (.step 7 (.step 6 (.step 8 .done))))) (.step 7 (.step 5 (.step 6 (.step 8 .done)))))) (.step 7 (.step 4 (.step 5 (.step 6 (.step 8 .done))))))) (.step 7 (.step 3 (.step 4 (.step 5 (.step 6 (.step 8 .done)))))))) (.step 3 (.both (.step 2 (.both (.step 4 (.both (.step 5 (.both (.step 6 (.step 7 (.step 8 .done))) (.step 7 (.step 6 (.step 8 .done))))) (.step 7 (.step 5 (.step 6 (.step 8 .done)))))) (.step 7 (.step 4 (.step 5 (.step 6 (.step 8 .done))))))) (.step 4 (.both (.step 2 (.both (.step 5 (.both (.step 6 (.step 7 (.step 8 .done))) (.step 7 (.step 6 (.step 8 .done))))) (.step 7 (.step 5 (.step 6 (.step 8 .done)))))) (.step 5 (.both (.step 2 (.both (.step 6 (.step 7 (.step 8 .done))) (.step 7 (.step 6 (.step 8 .done))))) (.step 6 (.step 2 (.step 7 (.step 8 .done)))))))))))) (.step 3 (.both (.step 1 (.both (.step 2 (.both (.step 4 (.both (.step 5 (.both (.step 6 (.step 7 (.step 8 .done))) (.step 7 (.step 6 (.step 8 .done))))) (.step 7 (.step 5 (.step 6 (.step 8 .done)))))) (.step 7 (.step 4 (.step 5 (.step 6 (.step 8 .done))))))) (.step 4 (.both (.step 2 (.both (.step 5 (.both (.step 6 (.step 7 (.step 8 .done))) (.step 7 (.step 6 (.step 8 .done))))) (.step 7 (.step 5 (.step 6 (.step 8 .done)))))) (.step 5 (.both (.step 2 (.both (.step 6 (.step 7 (.step 8 .done))) (.step 7 (.step 6 (.step 8 .done))))) (.step 6 (.step 2 (.step 7 (.step 8 .done)))))))))) (.step 4 (.both (.step 1 (.both (.step 2 (.both (.step 5 (.both (.step 6 (.step 7 (.step 8 .done))) (.step 7 (.step 6 (.step 8 .done))))) (.step 7 (.step 5 (.step 6 (.step 8 .done)))))) (.step 5 (.both (.step 2 (.both (.step 6 (.step 7 (.step 8 .done))) (.step 7 (.step 6 (.step 8 .done))))) (.step 6 (.step 2 (.step 7 (.step 8 .done)))))))) (.step 5 (.both (.step 1 (.both (.step 2 (.both (.step 6 (.step 7 (.step 8 .done))) (.step 7 (.step 6 (.step 8 .done))))) (.step 6 (.step 2 (.step 7 (.step 8 .done)))))) (.step 6 (.step 1 (.step 2 (.step 7 (.step 8 .done))))))))))))) (.step 3 (.both (.step 0 (.both (.step 1 (.both (.step 2 (.both (.step 4 (.both (.step 5 (.both (.step 6 (.step 7 (.step 8 .done))) (.step 7 (.step 6 (.step 8 .done))))) (.step 7 (.step 5 (.step 6 (.step 8 .done)))))) (.step 7 (.step 4 (.step 5 (.step 6 (.step 8 .done))))))) (.step 4 (.both (.step 2 (.both (.step 5 (.both (.step 6 (.step 7 (.step 8 .done))) (.step 7 (.step 6 (.step 8 .done))))) (.step 7 (.step 5 (.step 6 (.step 8 .done)))))) (.step 5 (.both (.step 2 (.both (.step 6 (.step 7 (.step 8 .done))) (.step 7 (.step 6 (.step 8 .done))))) (.step 6 (.step 2 (.step 7 (.step 8 .done)))))))))) (.step 4 (.both (.step 1 (.both (.step 2 (.both (.step 5 (.both (.step 6 (.step 7 (.step 8 .done))) (.step 7 (.step 6 (.step 8 .done))))) (.step 7 (.step 5 (.step 6 (.step 8 .done)))))) (.step 5 (.both (.step 2 (.both (.step 6 (.step 7 (.step 8 .done))) (.step 7 (.step 6 (.step 8 .done))))) (.step 6 (.step 2 (.step 7 (.step 8 .done)))))))) (.step 5 (.both (.step 1 (.both (.step 2 (.both (.step 6 (.step 7 (.step 8 .done))) (.step 7 (.step 6 (.step 8 .done))))) (.step 6 (.step 2 (.step 7 (.step 8 .done)))))) (.step 6 (.step 1 (.step 2 (.step 7 (.step 8 .done))))))))))) (.step 4 (.both (.step 0 (.both (.step 1 (.both (.step 2 (.both (.step 5 (.both (.step 6 (.step 7 (.step 8 .done))) (.step 7 (.step 6 (.step 8 .done))))) (.step 7 (.step 5 (.step 6 (.step 8 .done)))))) (.step 5 (.both (.step 2 (.both (.step 6 (.step 7 (.step 8 .done))) (.step 7 (.step 6 (.step 8 .done))))) (.step 6 (.step 2 (.step 7 (.step 8 .done)))))))) (.step 5 (.both (.step 1 (.both (.step 2 (.both (.step 6 (.step 7 (.step 8 .done))) (.step 7 (.step 6 (.step 8 .done))))) (.step 6 (.step 2 (.step 7 (.step 8 .done)))))) (.step 6 (.step 1 (.step 2 (.step 7 (.step 8 .done))))))))) (.step 5 (.both (.step 0 (.both (.step 1 (.both (.step 2 (.both (.step 6 (.step 7 (.step 8 .done))) (.step 7 (.step 6 (.step 8 .done))))) (.step 6 (.step 2 (.step 7 (.step 8 .done)))))) (.step 6 (.step 1 (.step 2 (.step 7 (.step 8 .done))))))) (.step 6 (.step 0 (.step 1 (.step 2 (.step 7 (.step 8 .done))))))))))))) (by kernel_rfl) ?_ | refine ww1 ?_ | (refine wK ?_; clear hK) | (simp only [wHb, reduceCtorEq] at hb <;> try (exfalso; omega)) | (refine Qaz true ?_ ?_ (fun hh => nomatch hh); focus (simp only [go_sem, Int.reduceBEq, Int.reduceBNe, Int.reduceLT, Int.reduceLE, Int.reduceAdd, Int.reduceToNat, F]; done); intro _) | (refine Qaz false ?_ (fun hh => nomatch hh) ?_; focus (simp only [go_sem, Int.reduceBEq, Int.reduceBNe, Int.reduceLT, Int.reduceLE, Int.reduceAdd, Int.reduceToNat, F]; done); intro _) | refine Qcf (fun hb => ?_) fun hb => ?_ | refine Qgs (c := by first | exact hnx) (k := ?_) | refine Qce ?_ | refine ww4 ?_ | refine Qcc (fun hb => ?_) fun hb => ?_ | refine And.intro ?_ ?_ | exact trivial
    refine Qbf [] rfl [.box [.rf 1 s.heads.length, .rf 2 s.descs.length], .root 151 (Qat (s.heads.set o ⟨h.value, h.version, (k : Int)⟩)), .root 89 (Qar 91 s.descs)] rfl (by simp [Qbx, Qbd, HpE, Qa2, hbk]) rfl (by simp only [go_sem, Qcd]; rfl) (acc := []) rfl (by simp) rfl
  · have hm : Qa5 s f k d e o h = (s, ⟨f.desc, 3, 0⟩, -1) := by rw [Qa5, if_neg p0, if_pos hph, if_neg c1, if_neg c2, if_pos c3]
    rw [hm] at hr
    subst hr
    have c3q : (h.version != e.version) = true := by simpa using c3
    have F := wwA @Qba (wwA @Qct (wwA @Qab (wwA @Qaa (wwA @Qad (wwA hk (wwA hj (wwA hk0 (wwA hj0 (wwA ho0 (wwA hkl (wwA hjl (wwA hol (wwA hrd (wwA hre (wwA hrh (wwA hkr (wwA hor (wwA (fun a => List.getElem?_set_self (a := a) hkr) (wwA @List.length_set.{0} (wwA @Nat.le_refl (wwA @Nat.le_add_right (wwA hph (wwA c1q (wwA c2q (wwA c3q (wwA @Qef (wwA @Qei (wwA @Qdr (wwA @Qeg @Qfv)))))))))))))))))))))))))))))
    repeat' first | refine wSq fun _ hK => ?_ | refine Ql0 (id := 1) [(2, k, 2)] ?_ | refine Qej hT hM (id := 6) (.both (.step 0 (.both (.step 1 (.both (.step 2 (.both (.step 3 (.both (.step 4 (.both (.step 5 (.both (.step 6 (.step 7 (.step 8 .done))) (.step 7 (.step 6 (.step 8 .done))))) (.step 7 (.step 5 (.step 6 (.step 8 .done)))))) (.step 7 (.step 4 (.step 5 (.step 6 (.step 8 .done))))))) (.step 7 (.step 3 (.step 4 (.step 5 (.step 6 (.step 8 .done)))))))) (.step 3 (.both (.step 2 (.both (.step 4 (.both (.step 5 (.both (.step 6 (.step 7 (.step 8 .done))) (.step 7 (.step 6 (.step 8 .done))))) (.step 7 (.step 5 (.step 6 (.step 8 .done)))))) (.step 7 (.step 4 (.step 5 (.step 6 (.step 8 .done))))))) (.step 4 (.both (.step 2 (.both (.step 5 (.both (.step 6 (.step 7 (.step 8 .done))) (.step 7 (.step 6 (.step 8 .done))))) (.step 7 (.step 5 (.step 6 (.step 8 .done)))))) (.step 5 (.both (.step 2 (.both (.step 6 (.step 7 (.step 8 .done))) (.step 7 (.step 6 (.step 8 .done))))) (.step 6 (.step 2 (.step 7 (.step 8 .done)))))))))))) (.step 3 (.both (.step 1 (.both (.step 2 (.both (.step 4 (.both (.step 5 (.both (.step 6 (.step 7 (.step 8 .done))) (.step 7 (.step 6 (.step 8 .done))))) (.step 7 (.step 5 (.step 6 (.step 8 .done)))))) (.step 7 (.step 4 (.step 5 (.step 6 (.step 8 .done))))))) (.step 4 (.both (.step 2 (.both (.step 5 (.both (.step 6 (.step 7 (.step 8 .done))) (.step 7 (.step 6 (.step 8 .done))))) (.step 7 (.step 5 (.step 6 (.step 8 .done)))))) (.step 5 (.both (.step 2 (.both (.step 6 (.step 7 (.step 8 .done))) (.step 7 (.step 6 (.step 8 .done))))) (.step 6 (.step 2 (.step 7 (.step 8 .done)))))))))) (.step 4 (.both (.step 1 (.both (.step 2 (.both (.step 5 (.both (.step 6 (.step 7 (.step 8 .done))) (.step 7 (.step 6 (.step 8 .done))))) (.step 7 (.step 5 (.step 6 (.step 8 .done)))))) (.step 5 (.both (.step 2 (.both (.step 6 (.step 7 (.step 8 .done))) (.step 7 (.step 6 (.step 8 .done))))) (.step 6 (.step 2 (.step 7 (.step 8 .done)))))))) (.step 5 (.both (.step 1 (.both (.step 2 (.both (.step 6 (.step 7 (.step 8 .done))) (.step 7 (.step 6 (.step 8 .done))))) (.step 6 (.step 2 (.step 7 (.step 8 .done)))))) (.step 6 (.step 1 (.step 2 (.step 7 (.step 8 .done))))))))))))) (.step 3 (.both (.step 0 (.both (.step 1 (.both (.step 2 (.both (.step 4 (.both (.step 5 (.both (.step 6 (.step 7 (.step 8 .done))) (.step 7 (.step 6 (.step 8 .done))))) (.step 7 (.step 5 (.step 6 (.step 8 .done)))))) (.step 7 (.step 4 (.step 5 (.step 6 (.step 8 .done))))))) (.step 4 (.both (.step 2 (.both (.step 5 (.both (.step 6 (.step 7 (.step 8 .done))) (.step 7 (.step 6 (.step 8 .done))))) (.step 7 (.step 5 (.step 6 (.step 8 .done)))))) (.step 5 (.both (.step 2 (.both (.step 6 (.step 7 (.step 8 .done))) (.step 7 (.step 6 (.step 8 .done))))) (.step 6 (.step 2 (.step 7 (.step 8 .done)))))))))) (.step 4 (.both (.step 1 (.both (.step 2 (.both (.step 5 (.both (.step 6 (.step 7 (.step 8 .done))) (.step 7 (.step 6 (.step 8 .done))))) (.step 7 (.step 5 (.step 6 (.step 8 .done)))))) (.step 5 (.both (.step 2 (.both (.step 6 (.step 7 (.step 8 .done))) (.step 7 (.step 6 (.step 8 .done))))) (.step 6 (.step 2 (.step 7 (.step 8 .done)))))))) (.step 5 (.both (.step 1 (.both (.step 2 (.both (.step 6 (.step 7 (.step 8 .done))) (.step 7 (.step 6 (.step 8 .done))))) (.step 6 (.step 2 (.step 7 (.step 8 .done)))))) (.step 6 (.step 1 (.step 2 (.step 7 (.step 8 .done))))))))))) (.step 4 (.both (.step 0 (.both (.step 1 (.both (.step 2 (.both (.step 5 (.both (.step 6 (.step 7 (.step 8 .done))) (.step 7 (.step 6 (.step 8 .done))))) (.step 7 (.step 5 (.step 6 (.step 8 .done)))))) (.step 5 (.both (.step 2 (.both (.step 6 (.step 7 (.step 8 .done))) (.step 7 (.step 6 (.step 8 .done))))) (.step 6 (.step 2 (.step 7 (.step 8 .done)))))))) (.step 5 (.both (.step 1 (.both (.step 2 (.both (.step 6 (.step 7 (.step 8 .done))) (.step 7 (.step 6 (.step 8 .done))))) (.step 6 (.step 2 (.step 7 (.step 8 .done)))))) (.step 6 (.step 1 (.step 2 (.step 7 (.step 8 .done))))))))) (.step 5 (.both (.step 0 (.both (.step 1 (.both (.step 2 (.both (.step 6 (.step 7 (.step 8 .done))) (.step 7 (.step 6 (.step 8 .done))))) (.step 6 (.step 2 (.step 7 (.step 8 .done)))))) (.step 6 (.step 1 (.step 2 (.step 7 (.step 8 .done))))))) (.step 6 (.step 0 (.step 1 (.step 2 (.step 7 (.step 8 .done))))))))))))) (by kernel_rfl) ?_ | refine ww1 ?_ | (refine wK ?_; clear hK) | (simp only [wHb, reduceCtorEq] at hb <;> try (exfalso; omega)) | (refine Qaz true ?_ ?_ (fun hh => nomatch hh); focus (simp only [go_sem, Int.reduceBEq, Int.reduceBNe, Int.reduceLT, Int.reduceLE, Int.reduceAdd, Int.reduceToNat, F]; done); intro _) | (refine Qaz false ?_ (fun hh => nomatch hh) ?_; focus (simp only [go_sem, Int.reduceBEq, Int.reduceBNe, Int.reduceLT, Int.reduceLE, Int.reduceAdd, Int.reduceToNat, F]; done); intro _) | refine Qcf (fun hb => ?_) fun hb => ?_ | refine Qce ?_ | refine ww4 ?_ | refine Qcc (fun hb => ?_) fun hb => ?_ | refine And.intro ?_ ?_ | exact trivial
    refine Qbf [(2, k, 2)] (by simp only [Qb1, Qco, go_sem, hkr, List.getElem?_set_self hkr, List.set_set, List.length_set, List.set_cons_succ, List.set_cons_zero, Qaa, Qai, Nat.le_refl, hbk, Qa2]; rfl) [.box [.rf 1 s.heads.length, .rf 2 s.descs.length], .root 151 (Qat s.heads), .root 89 (Qar 91 s.descs)] rfl (by simp [Qbx, Qbd, HpE, Qa2, hbk]) rfl (by simp only [go_sem, Qcd]; rfl) (acc := []) rfl (by simp) rfl
theorem Xf3 (s : StoreD) (f : FrameD) (k : Nat) (d : DescS) (j : Nat) (e : EntS) (o : Nat) (h : HeadD) (ha : AtP s f k d j e o h) (hv0 : 0 ≤ h.version) (hv1 : h.version ≤ 1000000) (hs : s.small) (hph : f.phase = 4) (r : StoreD × FrameD × Int) (hr : Qa5 s f k d e o h = r) :
    SatO Tryz.prog 197 [.bp 0 0, .agg f.cells] [.box [.rf 1 s.heads.length, .rf 2 s.descs.length], .root 151 (Qat s.heads), .root 89 (Qar 91 s.descs)]
      (.agg r.2.1.cells) [.box [.rf 1 s.heads.length, .rf 2 s.descs.length], .root 151 (Qat r.1.heads), .root 89 (Qar 91 r.1.descs)] := by
  obtain ⟨hk, hd, hj, he, heo, hho⟩ := ha
  obtain ⟨f1, f2, f3⟩ := hs
  have hkl := (List.getElem?_eq_some_iff.1 hd).1
  have hjl := (List.getElem?_eq_some_iff.1 he).1
  have hol := (List.getElem?_eq_some_iff.1 hho).1
  have hde := f3 d (List.mem_of_getElem? hd)
  have hk0 : (0 : Int) ≤ (k : Nat) := by omega
  have hj0 : (0 : Int) ≤ (j : Nat) := by omega
  have ho0 : (0 : Int) ≤ (o : Nat) := by omega
  have hrd := Qbl (te := 91) hd
  have hre := Qbe he
  have hrh := Qb0 hho
  have hkr : k < (Qar 91 s.descs).length := by rw [Qab]; exact hkl
  have hor : o < (Qat s.heads).length := by rw [Qad]; exact hol
  have hbk := Qh9 (te := 91) hd
  rw [heo] at hre
  have p0 : ¬ f.phase = 0 := by omega
  refine wEo Tryz.func197 [.cell 4 160] 65 3 ⟨⟨rfl, rfl⟩, ⟨rfl, Qaf _⟩, ⟨rfl, Qae _ _⟩, by simp [Qbc]⟩ fun E hE => ?_
  unfold FrameD.cells
  by_cases c1 : h.desc = f.desc
  · have c1q : (h.desc == (k : Int)) = true := by simp [c1, hk]
    by_cases hcm : d.status = 1 ∧ e.write = true
    · have hm : Qa5 s f k d e o h = (⟨s.heads.set o ⟨e.new, (h.version + 1).tmod 1000001, -1⟩, s.descs⟩, Qc5 d.entries.length f 5, -1) := by rw [Qa5, if_neg p0, if_neg (by omega), if_neg (by omega), if_pos hph, if_pos c1, Qzr, if_pos hcm]
      rw [hm] at hr
      subst hr
      obtain ⟨hs1, hwr⟩ := hcm
      have s1q : (d.status == 1) = true := by simp [hs1]
      rw [hwr] at hre
      have hset := Qb7 s.heads o ⟨e.new, (h.version + 1).tmod 1000001, -1⟩
      simp only at hset
      have hpr := Qaf (s.heads.set o ⟨e.new, (h.version + 1).tmod 1000001, -1⟩)
      have htk : (Qat (s.heads.set o ⟨e.new, (h.version + 1).tmod 1000001, -1⟩)).take s.heads.length = Qat (s.heads.set o ⟨e.new, (h.version + 1).tmod 1000001, -1⟩) := by
        have := Qaj (s.heads.set o ⟨e.new, (h.version + 1).tmod 1000001, -1⟩)
        rwa [List.length_set] at this
      have hnx := Qhm ⟨s.heads.set o ⟨e.new, (h.version + 1).tmod 1000001, -1⟩, s.descs⟩ f 5 k d hk hd (by omega) (by omega) ⟨by simpa using f1, f2, f3⟩
      unfold StoreD.cells FrameD.cells at hnx
      simp only at hnx
      rw [hk, hj, hph] at hnx
      have hwv := Qax (x := h.version + 1) (by omega)
      have hwm : IntKind.i64.wrap ((h.version + 1).tmod 1000001) = (h.version + 1).tmod 1000001 := Qax (by have := Int.tmod_lt_of_pos (h.version + 1) (b := 1000001) (by omega); have := Int.tmod_nonneg (a := h.version + 1) 1000001 (by omega); omega)
      have F := wwA @Qba (wwA @Qct (wwA @Qab (wwA @Qaa (wwA @Qad (wwA hk (wwA hj (wwA hk0 (wwA hj0 (wwA ho0 (wwA hkl (wwA hjl (wwA hol (wwA hrd (wwA hre (wwA hrh (wwA hkr (wwA hor (wwA (fun a => List.getElem?_set_self (a := a) hkr) (wwA @List.length_set.{0} (wwA @Nat.le_refl (wwA @Nat.le_add_right (wwA hph (wwA c1q (wwA s1q (wwA hwv (wwA hwm (wwA (fun a => List.getElem?_set_self (a := a) hor) (wwA hbk (wwA @Qai (wwA hpr (wwA htk (wwA @Qae (wwA @Qak (wwA @List.set_set.{0} (wwA @List.set_cons_succ.{0} (wwA @List.set_cons_zero.{0} hset))))))))))))))))))))))))))))))))))))
      repeat' first | refine wSq fun _ hK => ?_ | refine Ql0 (id := 1) [(2, k, 2)] ?_ | refine Qzu (id := 8) [(2, k, 2)] ?_ | refine ww1 ?_ | (refine wK ?_; clear hK) | (simp only [wHb, reduceCtorEq] at hb <;> try (exfalso; omega)) | (refine Qaz true ?_ ?_ (fun hh => nomatch hh); focus (simp only [go_sem, Int.reduceBEq, Int.reduceBNe, Int.reduceLT, Int.reduceLE, Int.reduceAdd, Int.reduceToNat, F]; done); intro _) | (refine Qaz false ?_ (fun hh => nomatch hh) ?_; focus (simp only [go_sem, Int.reduceBEq, Int.reduceBNe, Int.reduceLT, Int.reduceLE, Int.reduceAdd, Int.reduceToNat, F]; done); intro _) | refine Qcf (fun hb => ?_) fun hb => ?_ | refine Qgs (c := by first | exact hnx) (k := ?_) | refine Qce ?_ | refine ww4 ?_ | refine Qcc (fun hb => ?_) fun hb => ?_ | exact trivial
      refine Qbf [] rfl [.box [.rf 1 s.heads.length, .rf 2 s.descs.length], .root 151 (Qat (s.heads.set o ⟨e.new, (h.version + 1).tmod 1000001, -1⟩)), .root 89 (Qar 91 s.descs)] rfl (by simp [Qbx, Qbd, HpE, Qa2, hbk]) rfl (by simp only [go_sem, Qcd]; rfl) (acc := []) rfl (by simp) rfl
    · have hm : Qa5 s f k d e o h = (⟨s.heads.set o ⟨h.value, h.version, -1⟩, s.descs⟩, Qc5 d.entries.length f 5, -1) := by rw [Qa5, if_neg p0, if_neg (by omega), if_neg (by omega), if_pos hph, if_pos c1, Qzr, if_neg hcm]
      rw [hm] at hr
      subst hr
      have hset := Qb7 s.heads o ⟨h.value, h.version, -1⟩
      simp only at hset
      have hpr := Qaf (s.heads.set o ⟨h.value, h.version, -1⟩)
      have htk : (Qat (s.heads.set o ⟨h.value, h.version, -1⟩)).take s.heads.length = Qat (s.heads.set o ⟨h.value, h.version, -1⟩) := by
        have := Qaj (s.heads.set o ⟨h.value, h.version, -1⟩)
        rwa [List.length_set] at this
      have hnx := Qhm ⟨s.heads.set o ⟨h.value, h.version, -1⟩, s.descs⟩ f 5 k d hk hd (by omega) (by omega) ⟨by simpa using f1, f2, f3⟩
      unfold StoreD.cells FrameD.cells at hnx
      simp only at hnx
      rw [hk, hj, hph] at hnx
      by_cases hs1 : d.status = 1
      · have s1q : (d.status == 1) = true := by simp [hs1]
        have hwf : e.write = false := by
          cases hwr : e.write with
          | true => exact absurd ⟨hs1, hwr⟩ hcm
          | false => rfl
        rw [hwf] at hre
        have F := wwA @Qba (wwA @Qct (wwA @Qab (wwA @Qaa (wwA @Qad (wwA hk (wwA hj (wwA hk0 (wwA hj0 (wwA ho0 (wwA hkl (wwA hjl (wwA hol (wwA hrd (wwA hre (wwA hrh (wwA hkr (wwA hor (wwA (fun a => List.getElem?_set_self (a := a) hkr) (wwA @List.length_set.{0} (wwA @Nat.le_refl (wwA @Nat.le_add_right (wwA hph (wwA c1q (wwA s1q (wwA hbk (wwA @Qai (wwA hpr (wwA htk (wwA @Qae (wwA @Qak (wwA @List.set_set.{0} (wwA @List.set_cons_succ.{0} (wwA @List.set_cons_zero.{0} hset)))))))))))))))))))))))))))))))))
        repeat' first | refine wSq fun _ hK => ?_ | refine Ql0 (id := 1) [(2, k, 2)] ?_ | refine Qzu (id := 8) [(2, k, 2)] ?_ | refine ww1 ?_ | (refine wK ?_; clear hK) | (simp only [wHb, reduceCtorEq] at hb <;> try (exfalso; omega)) | (refine Qaz true ?_ ?_ (fun hh => nomatch hh); focus (simp only [go_sem, Int.reduceBEq, Int.reduceBNe, Int.reduceLT, Int.reduceLE, Int.reduceAdd, Int.reduceToNat, F]; done); intro _) | (refine Qaz false ?_ (fun hh => nomatch hh) ?_; focus (simp only [go_sem, Int.reduceBEq, Int.reduceBNe, Int.reduceLT, Int.reduceLE, Int.reduceAdd, Int.reduceToNat, F]; done); intro _) | refine Qcf (fun hb => ?_) fun hb => ?_ | refine Qgs (c := by first | exact hnx) (k := ?_) | refine Qce ?_ | refine ww4 ?_ | refine Qcc (fun hb => ?_) fun hb => ?_ | exact trivial
        refine Qbf [] rfl [.box [.rf 1 s.heads.length, .rf 2 s.descs.length], .root 151 (Qat (s.heads.set o ⟨h.value, h.version, -1⟩)), .root 89 (Qar 91 s.descs)] rfl (by simp [Qbx, Qbd, HpE, Qa2, hbk]) rfl (by simp only [go_sem, Qcd]; rfl) (acc := []) rfl (by simp) rfl
      · have s1q : (d.status == 1) = false := by simpa using hs1
        have F := wwA @Qba (wwA @Qct (wwA @Qab (wwA @Qaa (wwA @Qad (wwA hk (wwA hj (wwA hk0 (wwA hj0 (wwA ho0 (wwA hkl (wwA hjl (wwA hol (wwA hrd (wwA hre (wwA hrh (wwA hkr (wwA hor (wwA (fun a => List.getElem?_set_self (a := a) hkr) (wwA @List.length_set.{0} (wwA @Nat.le_refl (wwA @Nat.le_add_right (wwA hph (wwA c1q (wwA s1q (wwA hbk (wwA @Qai (wwA hpr (wwA htk (wwA @Qae (wwA @Qak (wwA @List.set_set.{0} (wwA @List.set_cons_succ.{0} (wwA @List.set_cons_zero.{0} hset)))))))))))))))))))))))))))))))))
        repeat' first | refine wSq fun _ hK => ?_ | refine Ql0 (id := 1) [(2, k, 2)] ?_ | refine Qzu (id := 8) [(2, k, 2)] ?_ | refine ww1 ?_ | (refine wK ?_; clear hK) | (simp only [wHb, reduceCtorEq] at hb <;> try (exfalso; omega)) | (refine Qaz true ?_ ?_ (fun hh => nomatch hh); focus (simp only [go_sem, Int.reduceBEq, Int.reduceBNe, Int.reduceLT, Int.reduceLE, Int.reduceAdd, Int.reduceToNat, F]; done); intro _) | (refine Qaz false ?_ (fun hh => nomatch hh) ?_; focus (simp only [go_sem, Int.reduceBEq, Int.reduceBNe, Int.reduceLT, Int.reduceLE, Int.reduceAdd, Int.reduceToNat, F]; done); intro _) | refine Qcf (fun hb => ?_) fun hb => ?_ | refine Qgs (c := by first | exact hnx) (k := ?_) | refine Qce ?_ | refine ww4 ?_ | refine Qcc (fun hb => ?_) fun hb => ?_ | exact trivial
        refine Qbf [] rfl [.box [.rf 1 s.heads.length, .rf 2 s.descs.length], .root 151 (Qat (s.heads.set o ⟨h.value, h.version, -1⟩)), .root 89 (Qar 91 s.descs)] rfl (by simp [Qbx, Qbd, HpE, Qa2, hbk]) rfl (by simp only [go_sem, Qcd]; rfl) (acc := []) rfl (by simp) rfl
  · have hm : Qa5 s f k d e o h = (s, Qc5 d.entries.length f 5, -1) := by rw [Qa5, if_neg p0, if_neg (by omega), if_neg (by omega), if_pos hph, if_neg c1]
    rw [hm] at hr
    subst hr
    have c1q : (h.desc == (k : Int)) = false := by rw [beq_eq_false_iff_ne, ← hk]; exact c1
    have hnx := Qhm s f 5 k d hk hd (by omega) (by omega) ⟨f1, f2, f3⟩
    unfold StoreD.cells FrameD.cells at hnx
    rw [hk, hj, hph] at hnx
    have F := wwA @Qba (wwA @Qct (wwA @Qab (wwA @Qaa (wwA @Qad (wwA hk (wwA hj (wwA hk0 (wwA hj0 (wwA ho0 (wwA hkl (wwA hjl (wwA hol (wwA hrd (wwA hre (wwA hrh (wwA hkr (wwA hor (wwA (fun a => List.getElem?_set_self (a := a) hkr) (wwA @List.length_set.{0} (wwA @Nat.le_refl (wwA @Nat.le_add_right (wwA hph (wwA c1q (wwA hbk (wwA @Qai (wwA @Qaf (wwA @Qaj (wwA @Qae (wwA @Qak @List.set_set.{0})))))))))))))))))))))))))))))
    repeat' first | refine wSq fun _ hK => ?_ | refine Ql0 (id := 1) [(2, k, 2)] ?_ | refine Qzu (id := 8) [(2, k, 2)] ?_ | refine ww1 ?_ | (refine wK ?_; clear hK) | (simp only [wHb, reduceCtorEq] at hb <;> try (exfalso; omega)) | (refine Qaz true ?_ ?_ (fun hh => nomatch hh); focus (simp only [go_sem, Int.reduceBEq, Int.reduceBNe, Int.reduceLT, Int.reduceLE, Int.reduceAdd, Int.reduceToNat, F]; done); intro _) | (refine Qaz false ?_ (fun hh => nomatch hh) ?_; focus (simp only [go_sem, Int.reduceBEq, Int.reduceBNe, Int.reduceLT, Int.reduceLE, Int.reduceAdd, Int.reduceToNat, F]; done); intro _) | refine Qcf (fun hb => ?_) fun hb => ?_ | refine Qgs (c := by first | exact hnx) (k := ?_) | refine Qce ?_ | refine ww4 ?_ | refine Qcc (fun hb => ?_) fun hb => ?_ | exact trivial
    refine Qbf [] rfl [.box [.rf 1 s.heads.length, .rf 2 s.descs.length], .root 151 (Qat s.heads), .root 89 (Qar 91 s.descs)] rfl (by simp [Qbx, Qbd, HpE, Qa2, hbk]) rfl (by simp only [go_sem, Qcd]; rfl) (acc := []) rfl (by simp) rfl
end Go.Proofs.YtmiojnibngncaaaGreat
