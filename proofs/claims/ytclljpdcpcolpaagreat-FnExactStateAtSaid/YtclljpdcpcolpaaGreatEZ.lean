/- The value-level engine, twenty-sixth part: a region of open order whose last operation comes after all others; it may be a call that turns what it is handed. -/
import Derived.Test.YtclljpdcpcolpaaGreatEc
namespace Go.Proofs.YtclljpdcpcolpaaGreat
open Go Go.RowKit
set_option linter.unusedVariables false
set_option linter.unusedSimpArgs false

/-- The operations ahead of the last may come in any order, the last one comes after all of them. -/
def drawOKL (ops : Array Oper) (m : Nat) : Bool :=
  decide (ops.size = m + 1) && (List.range m).all (fun j => match ops[j]? with
    | none => false
    | some oj => oj.after.all (fun e => !Region.binds .any e || decide (e.on < j)) && (List.range j).all fun i => (descs ops i).contains j || (match ops[i]? with
      | some oi => oi.apart ops oj && commB oi oj
      | none => false)) && (match ops[m]? with
    | none => false
    | some ol => ol.after.all (fun e => !Region.binds .any e || decide (e.on < m)) && (List.range m).all fun i => (descs ops i).contains m)

section
variable {P : Program} {E : Env} {g g' : Gh} {s s2 s' d d1 d2 : St} {a : Act} {w w' : World} {ty : Ty} {ops : Array Oper} {o oi oj ol : Oper}

theorem anyL (hT : TyOK P ty) {b m : Nat} {Q : Exit → St → Prop} (hn : ops.size = m + 1)
    (hok : ∀ j, j < m → ∃ oj, ops[j]? = some oj ∧ (∀ e ∈ oj.after, Region.binds .any e = true → e.on < j) ∧ ∀ i, i < j → j ∈ descs ops i ∨ ∃ oi, ops[i]? = some oi ∧ oi.apart ops oj = true ∧ commB oi oj = true)
    (hol : ops[m]? = some ol) (haf : ∀ e ∈ ol.after, Region.binds .any e = true → e.on < m) (hall : ∀ i, i < m → m ∈ descs ops i) :
    ∀ (fuel : Nat) (listed : Array Bool) (g : Gh) (d : St) (a : Act) (w : World), Rel P E g (d.nm (b + m * 64)) a w → Unseen g b m (unl m listed) → listed.size = m + 1 → listed.getD m true = false → Closed ops listed → (unl m listed).length < fuel →
      ChainD P ty ops b (unl m listed) d (fun d => vop P ty ops ol (d.nm (b + m * 64)) (Q .normal)) → wpAny P .any ops (lift P E Q) fuel listed a w := by
  intro fuel
  induction fuel with
  | zero => intro listed g d a w _ _ _ _ _ hlen; omega
  | succ fuel ih =>
    intro listed g d a w hr hU hsz hm hcl hlen hch
    have hlist : ∀ i, i < m → listed.getD i false = true → i ∉ unl m listed := fun i hi hl hu => by
      simp only [unl, List.mem_filter, List.mem_range, Bool.not_eq_true'] at hu
      have hlt2 : i < listed.size := by omega
      have h3 := hu.2
      simp only [Array.getD_eq_getD_getElem?, Array.getElem?_eq_getElem hlt2, Option.getD_some] at hl h3
      rw [hl] at h3
      cases h3
    have hunl : ∀ i, i < m → i ∉ unl m listed → listed.getD i false = true := fun i hi hu => by
      have hlt2 : i < listed.size := by omega
      cases hl : listed.getD i true with
      | true => simp only [Array.getD_eq_getD_getElem?, Array.getElem?_eq_getElem hlt2, Option.getD_some] at hl ⊢; exact hl
      | false => exact absurd (by simp only [unl, List.mem_filter, List.mem_range, Bool.not_eq_true']; exact ⟨hi, hl⟩) hu
    have hpw : (unl m listed).Pairwise (· < ·) := List.Pairwise.filter _ (List.pairwise_lt_range)
    refine ⟨fun h0 => ?_, fun j hj => ?_⟩
    · exfalso
      cases hu : unl m listed with
      | nil =>
        have : m ∈ Region.ready .any ops listed := by
          rw [mem_ready]
          exact ⟨hm, ol, hol, fun e he hb => hunl _ (haf e he hb) (by rw [hu]; simp)⟩
        rw [h0] at this
        cases this
      | cons i L =>
        have hi : i ∈ unl m listed := by rw [hu]; exact List.mem_cons_self ..
        have hi' := hi
        simp only [unl, List.mem_filter, List.mem_range, Bool.not_eq_true'] at hi'
        obtain ⟨oi, hoi, haf', _⟩ := hok i hi'.1
        have : i ∈ Region.ready .any ops listed := by
          rw [mem_ready]
          refine ⟨hi'.2, oi, hoi, fun e he hb => ?_⟩
          have hlt := haf' e he hb
          refine hunl _ (by omega) fun hmem => ?_
          rw [hu] at hmem hpw
          rw [List.pairwise_cons] at hpw
          rcases List.mem_cons.1 hmem with h | h
          · omega
          · have := hpw.1 _ h
            omega
        rw [h0] at this
        cases this
    · obtain ⟨h0, oj, hoj, hafj⟩ := mem_ready.1 hj
      have hlt1 : j < m + 1 := by rw [← hn]; exact (Array.getElem?_eq_some_iff.1 hoj).1
      rcases Nat.lt_or_ge j m with hlt | hge
      · have hjU : j ∈ unl m listed := by simp only [unl, List.mem_filter, List.mem_range, Bool.not_eq_true']; exact ⟨hlt, h0⟩
        obtain ⟨pre, post, hsplit⟩ := List.append_of_mem hjU
        have hpw' := hpw
        rw [hsplit, List.pairwise_append] at hpw'
        have hmemU : ∀ i ∈ pre, i ∈ unl m listed := fun i hi => by rw [hsplit]; exact List.mem_append_left _ hi
        have hpre : ∀ i ∈ pre, i < j := fun i hi => hpw'.2.2 i hi j (List.mem_cons_self ..)
        have hpost : ∀ i ∈ post, j < i := fun i hi => by
          have := hpw'.2.1
          rw [List.pairwise_cons] at this
          exact this.1 i hi
        have hnodup : pre.Nodup := hpw'.1.imp (fun h => Nat.ne_of_lt h)
        obtain ⟨oj', hoj', _, hpair⟩ := hok j hlt
        rw [hoj] at hoj'
        cases hoj'
        have hcomm : ∀ i ∈ pre, ∃ oi, ops[i]? = some oi ∧ oi.apart ops oj = true ∧ commB oi oj = true := by
          intro i hi
          rcases hpair i (hpre i hi) with hd | hd
          · exact absurd (hmemU i hi) (hlist i (Nat.lt_trans (hpre i hi) hlt) ((descs_closed hcl i j hd).2 oj hoj hafj))
          · exact hd
        rw [hsplit] at hch
        obtain ⟨d', h1, h2⟩ := bubble hT hoj hlt pre post (unl m listed) d ⟨g, a, w, hr, hU⟩ hjU (fun i hi => ⟨hmemU i hi, Nat.lt_trans (hpre i hi) hlt, Nat.ne_of_lt (hpre i hi)⟩) hnodup hcomm hch
        obtain ⟨oj', hoj', s', hv, rfl⟩ := h1
        rw [hoj] at hoj'
        cases hoj'
        have hfil : unl m (listed.setIfInBounds j true) = pre ++ post := by
          have hset : unl m (listed.setIfInBounds j true) = (unl m listed).filter (· ≠ j) := by
            unfold unl
            rw [List.filter_filter]
            refine List.filter_congr fun i hi => ?_
            by_cases c : i = j
            · subst c
              have : i < listed.size := by omega
              simp [this]
            · have : (listed.setIfInBounds j true).getD i true = listed.getD i true := getD_set_ne true (Ne.symm c)
              rw [this]
              simp [c]
          rw [hset, hsplit, List.filter_append, List.filter_cons]
          have e1 : pre.filter (· ≠ j) = pre := List.filter_eq_self.2 fun i hi => by have := hpre i hi; simp; omega
          have e2 : post.filter (· ≠ j) = post := List.filter_eq_self.2 fun i hi => by have := hpost i hi; simp; omega
          rw [e1, e2]
          simp
        have hnx := stepD_nx (lohi b j) hv
        have hw := rel_win (l := lo b j) (h := hi b j) hr (hU.2 j hjU)
        unfold wpOp
        simp only [hoj]
        refine vop_sound hT hw (ops := ops) (o := oj) (K := (· = s')) hv fun g' s2 a' w' hs hr' hf => ?_
        subst hs
        have hun := unseen_step hlt hU hnx hf
        have hrel : Rel P E g' (s2.nm (b + m * 64)) a' w' := rel_nm hr' hun.1
        have hfu : (unl m listed).filter (· ≠ j) = pre ++ post := by
          rw [hsplit, List.filter_append, List.filter_cons]
          have e1 : pre.filter (· ≠ j) = pre := List.filter_eq_self.2 fun i hi => by have := hpre i hi; simp; omega
          have e2 : post.filter (· ≠ j) = post := List.filter_eq_self.2 fun i hi => by have := hpost i hi; simp; omega
          rw [e1, e2]
          simp
        refine ih _ g' (s2.nm 0) a' w' hrel (by rw [hfil, ← hfu]; exact hun) (by simpa using hsz) (by rw [getD_set_ne true (by omega)]; exact hm) ?_ ?_ (by rw [hfil]; exact h2)
        · intro k o ho hk e he hb
          refine getD_set_true ?_
          by_cases c : k = j
          · subst c
            rw [hoj] at ho
            cases ho
            exact hafj e he hb
          · rw [getD_set_ne true (Ne.symm c)] at hk
            exact hcl k o ho hk e he hb
        · have : (unl m listed).length = (pre ++ post).length + 1 := by rw [hsplit]; simp; omega
          rw [hfil]
          omega
      · obtain rfl : j = m := by omega
        rw [hol] at hoj
        cases hoj
        have hnil : unl j listed = [] := by
          cases hu : unl j listed with
          | nil => rfl
          | cons i L =>
            have hi : i ∈ unl j listed := by rw [hu]; exact List.mem_cons_self ..
            have hi2 := hi
            simp only [unl, List.mem_filter, List.mem_range] at hi2
            exact absurd hi (hlist i hi2.1 ((descs_closed hcl i j (hall i hi2.1)).2 ol hol hafj))
        rw [hnil] at hch
        unfold wpOp
        simp only [hol]
        refine vop_sound hT hr (ops := ops) (o := ol) (K := Q .normal) hch fun g' s2 a' w' hs hr' hf => ?_
        have hdone : Region.ready .any ops (listed.setIfInBounds j true) = [] := by
          cases hrd : Region.ready .any ops (listed.setIfInBounds j true) with
          | nil => rfl
          | cons k L =>
            exfalso
            have hk : k ∈ Region.ready .any ops (listed.setIfInBounds j true) := by rw [hrd]; exact List.mem_cons_self ..
            obtain ⟨h3, o, ho, _⟩ := mem_ready.1 hk
            have hk1 : k < j + 1 := by rw [← hn]; exact (Array.getElem?_eq_some_iff.1 ho).1
            by_cases c : k = j
            · subst c
              have : k < listed.size := by omega
              simp [this] at h3
            · rw [getD_set_ne true (Ne.symm c)] at h3
              have : k ∈ unl j listed := by simp only [unl, List.mem_filter, List.mem_range, Bool.not_eq_true']; exact ⟨by omega, h3⟩
              rw [hnil] at this
              cases this
        cases fuel with
        | zero => exact ⟨hdone, g', s2, hr', hs⟩
        | succ f =>
          refine ⟨fun _ => ⟨g', s2, hr', hs⟩, fun k hk => ?_⟩
          rw [hdone] at hk
          cases hk

theorem vdraw_chainL {b : Nat} {K : St → Prop} : ∀ (l : List Oper) (k : Nat) (s : St), (∀ j, j < l.length → l[j]? = ops[k + j]?) → vdraw P ty ops l k b s K → ChainD P ty ops b (List.range' k l.length) (s.nm 0) (fun d => K (d.nm (b + (k + l.length) * 64)))
  | [], k, s, hl, h => h
  | o :: rest, k, s, hl, h => by
    obtain ⟨s', h1, h2⟩ := vop_ex.1 h
    have h0 : ops[k]? = some o := by simpa using (hl 0 (by simp)).symm
    have ih := vdraw_chainL rest (k + 1) s' (fun j hj => by have := hl (j + 1) (by simp; omega); simpa [Nat.add_assoc, Nat.add_comm 1 j] using this) h2
    simp only [List.length_cons, List.range'_succ]
    refine ⟨s'.nm 0, ⟨o, h0, s', h1, rfl⟩, ?_⟩
    rw [show k + (rest.length + 1) = k + 1 + rest.length by omega]
    exact ih

/-- What is done last. -/
def lastK (P : Program) (ty : Ty) (ops : Array Oper) (rest : List Oper) (K : St → Prop) : St → Prop := fun s => vops P ty ops rest s K
theorem lastK_at {ops : Array Oper} {rest : List Oper} {K : St → Prop} {tm : Nat → VV} {H : Heap} {nx N : Nat} {lim : Option Nat} : lastK P ty ops rest K ⟨tm, H, nx, N, lim⟩ = vops P ty ops rest ⟨tm, H, nx, N, lim⟩ K := rfl

theorem VWP_drawL_k (hT : TyOK P ty) (hm : P.follows .mixedOrders = true) {id : Nat} {l : List Oper} {Q : Exit → St → Prop} (m : Nat) (hok : drawOKL l.toArray m = true) (hlim : s.lim = none)
    (h : vdraw P ty l.toArray (l.take m) 0 s.nx s (lastK P ty l.toArray (l.drop m) (Q .normal))) : VWP P E (.region id l.toArray true) Q s := by
  intro g a w hr
  refine wp_region_any hm ?_
  simp only [drawOKL, Bool.and_eq_true, decide_eq_true_eq, List.all_eq_true, List.mem_range] at hok
  obtain ⟨⟨hn, h1⟩, h2⟩ := hok
  have hlen : l.length = m + 1 := by simpa using hn
  obtain ⟨ol, hol⟩ : ∃ ol, l[m]? = some ol := ⟨_, List.getElem?_eq_getElem (by omega)⟩
  have hola : l.toArray[m]? = some ol := by simpa using hol
  rw [hola] at h2
  simp only [Bool.and_eq_true, Array.all_eq_true_iff_forall_mem, List.all_eq_true, List.mem_range, Bool.or_eq_true, Bool.not_eq_true', decide_eq_true_eq, List.contains_eq_mem] at h2
  have hdrop : l.drop m = [ol] := by
    rw [List.drop_eq_getElem_cons (by omega), List.drop_eq_nil_of_le (by omega)]
    congr 1
    rw [List.getElem?_eq_getElem (by omega)] at hol
    exact Option.some.inj hol
  have hch := vdraw_chainL (ops := l.toArray) (l.take m) 0 s (fun j hj => ?_) h
  · have htl : (l.take m).length = m := by simp; omega
    rw [htl] at hch
    simp only [Nat.zero_add] at hch
    have hall : unl m (Array.replicate (m + 1) false) = List.range' 0 m := by
      rw [← List.range_eq_range']
      refine List.filter_eq_self.2 fun i hi => ?_
      have : i < m + 1 := by have := List.mem_range.1 hi; omega
      simp [this]
    have hrel : Rel P E g ((s.nm 0).nm (s.nx + m * 64)) a { w with drawn := w.drawn + 1 } :=
      ⟨hr.size, hr.defers, hr.heap.drew, fun T hT => hr.fresh T ⟨Nat.le_trans (Nat.le_add_right _ _) hT.1, by rw [hlim]; trivial⟩, hr.tmps, hr.pin⟩
    have hun : ∀ T, s.nx ≤ T → g.sn T = false := fun T hT => hr.fresh T ⟨hT, by rw [hlim]; trivial⟩
    have hsz : l.toArray.size = m + 1 := by simpa using hlen
    rw [hsz]
    refine anyL hT (b := s.nx) (m := m) (ol := ol) hsz (fun j hj => ?_) hola (fun e he hb => (h2.1 e he).resolve_left (by simp [hb])) (fun i hi => h2.2 i hi) _ _ g (s.nm 0) a _ hrel ⟨fun T hT => hun T (by omega), fun i _ T h1 _ => hun T (by unfold lo at h1; omega)⟩ (by simp) (by simp) (fun j o ho hl => ?_) (by rw [hall]; simp) ?_
    · have := h1 j hj
      split at this
      · cases this
      · rename_i oj hoj
        simp only [Bool.and_eq_true, Array.all_eq_true_iff_forall_mem, List.all_eq_true, List.mem_range, Bool.or_eq_true, Bool.not_eq_true', decide_eq_true_eq, List.contains_eq_mem] at this
        refine ⟨oj, hoj, fun e he hb => (this.1 e he).resolve_left (by simp [hb]), fun i hi => ?_⟩
        rcases this.2 i hi with h1 | h1
        · exact .inl h1
        · refine .inr ?_
          split at h1
          · rename_i oi hoi
            simp only [Bool.and_eq_true] at h1
            exact ⟨oi, hoi, h1.1, h1.2⟩
          · cases h1
    · have hlt : j < m + 1 := by rw [← hsz]; exact (Array.getElem?_eq_some_iff.1 ho).1
      simp [hlt] at hl
    · rw [hall]
      have key : ∀ (L : List Nat) (d : St), ChainD P ty l.toArray s.nx L d (fun d => lastK P ty l.toArray (l.drop m) (Q .normal) (d.nm (s.nx + m * 64))) → ChainD P ty l.toArray s.nx L d (fun d => vop P ty l.toArray ol (d.nm (s.nx + m * 64)) (Q .normal)) := by
        intro L
        induction L with
        | nil =>
          intro d hd
          have hd : vops P ty l.toArray (l.drop m) (d.nm (s.nx + m * 64)) (Q .normal) := hd
          rw [hdrop] at hd
          exact hd
        | cons i L ihL =>
          intro d hd
          obtain ⟨d', k1, k2⟩ := hd
          exact ⟨d', k1, ihL d' k2⟩
      exact key _ _ hch
  · have hj : j < m := by simp at hj; omega
    simp [List.getElem?_take, hj]
end
end Go.Proofs.YtclljpdcpcolpaaGreat
