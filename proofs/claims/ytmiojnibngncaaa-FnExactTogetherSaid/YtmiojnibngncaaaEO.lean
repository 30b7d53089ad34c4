/- The value-level engine, twenty-seventh part: a region of open order taken in every order that there is. -/
import Derived.Test.YtmiojnibngncaaaEc
namespace Go.Proofs.Ytmiojnibngncaaa
open Go Go.RowKit
set_option linter.unusedVariables false
set_option linter.unusedSimpArgs false

/-- Orders, as they branch. -/
inductive Tr where
  | done
  | step (j : Nat) (t : Tr)
  | both (a b : Tr)
def Tr.firsts : Tr → List (Nat × Tr)
  | .done => []
  | .step j t => [(j, t)]
  | .both a b => a.firsts ++ b.firsts
def Tr.ends : Tr → Bool
  | .done => true
  | .step _ _ => false
  | .both a b => a.ends || b.ends
/-- All orders are among those of the tree. -/
def covT (ops : Array Oper) : Nat → Array Bool → Tr → Bool
  | 0, listed, t => (Region.ready .any ops listed).isEmpty && t.ends
  | f + 1, listed, t => (!(Region.ready .any ops listed).isEmpty || t.ends) && (Region.ready .any ops listed).all fun j => t.firsts.any fun p => p.1 == j && covT ops f (listed.setIfInBounds j true) p.2

def vtree (P : Program) (ty : Ty) (ops : Array Oper) : Tr → St → (St → Prop) → Prop
  | .done, s, K => K s
  | .step j t, s, K => match ops[j]? with
    | some o => vops P ty ops [o] s fun s' => vtree P ty ops t s' K
    | none => False
  | .both a b, s, K => vtree P ty ops a s K ∧ vtree P ty ops b s K
def contT (P : Program) (ty : Ty) (ops : Array Oper) (t : Tr) (K : St → Prop) : St → Prop := fun s => vtree P ty ops t s K
def vtreeO (P : Program) (ty : Ty) (ops : Array Oper) (o : Option Oper) (t : Tr) (s : St) (K : St → Prop) : Prop := match o with
  | some o => vops P ty ops [o] s (contT P ty ops t K)
  | none => False

section
variable {P : Program} {E : Env} {g g' : Gh} {s : St} {a : Act} {w w' : World} {ty : Ty} {ops : Array Oper}

theorem vtree_done {K : St → Prop} : vtree P ty ops .done s K = K s := rfl
theorem vtree_step {l : List Oper} {j : Nat} {t : Tr} {K : St → Prop} : vtree P ty l.toArray (.step j t) s K = vtreeO P ty l.toArray l[j]? t s K := by
  have : l.toArray[j]? = l[j]? := by simp
  simp only [vtree, vtreeO, this]
  rfl
theorem vtreeO_some {o : Oper} {t : Tr} {K : St → Prop} : vtreeO P ty ops (some o) t s K = vops P ty ops [o] s (contT P ty ops t K) := rfl
theorem vtree_both {x y : Tr} {K : St → Prop} : vtree P ty ops (.both x y) s K = (vtree P ty ops x s K ∧ vtree P ty ops y s K) := rfl
theorem contT_at {t : Tr} {K : St → Prop} {tm : Nat → VV} {H : Heap} {nx N : Nat} {lim : Option Nat} : contT P ty ops t K ⟨tm, H, nx, N, lim⟩ = vtree P ty ops t ⟨tm, H, nx, N, lim⟩ K := rfl

theorem tree_ends {K : St → Prop} : ∀ {t : Tr}, t.ends = true → vtree P ty ops t s K → K s
  | .done, _, h => h
  | .both x y, he, h => by
    simp only [Tr.ends, Bool.or_eq_true] at he
    rcases he with he | he
    · exact tree_ends he h.1
    · exact tree_ends he h.2
theorem tree_first {K : St → Prop} : ∀ {t : Tr} {j : Nat} {t' : Tr}, (j, t') ∈ t.firsts → vtree P ty ops t s K → vtree P ty ops (.step j t') s K
  | .step j t, _, _, hm, h => by
    simp only [Tr.firsts, List.mem_singleton, Prod.mk.injEq] at hm
    obtain ⟨rfl, rfl⟩ := hm
    exact h
  | .both x y, _, _, hm, h => by
    simp only [Tr.firsts, List.mem_append] at hm
    rcases hm with hm | hm
    · exact tree_first hm h.1
    · exact tree_first hm h.2
theorem tree_any (hT : TyOK P ty) {Q : Exit → St → Prop} : ∀ (f : Nat) (listed : Array Bool) (t : Tr) (g : Gh) (s : St) (a : Act) (w : World), covT ops f listed t = true → Rel P E g s a w → vtree P ty ops t s (Q .normal) → wpAny P .any ops (lift P E Q) f listed a w := by
  intro f
  induction f with
  | zero =>
    intro listed t g s a w hc hr h
    simp only [covT, Bool.and_eq_true, List.isEmpty_iff] at hc
    exact ⟨hc.1, g, s, hr, tree_ends hc.2 h⟩
  | succ f ih =>
    intro listed t g s a w hc hr h
    simp only [covT, Bool.and_eq_true, List.all_eq_true] at hc
    obtain ⟨h1, h2⟩ := hc
    refine ⟨fun h0 => ?_, fun j hj => ?_⟩
    · rw [h0] at h1
      exact ⟨g, s, hr, tree_ends (by simpa using h1) h⟩
    · obtain ⟨_, o, ho, _⟩ := mem_ready.1 hj
      have h3 := h2 j hj
      simp only [List.any_eq_true, Bool.and_eq_true, beq_iff_eq] at h3
      obtain ⟨⟨k, t'⟩, hm, hk, hc'⟩ := h3
      simp only at hk hc'
      subst hk
      have h4 := tree_first hm h
      simp only [vtree, ho] at h4
      unfold wpOp
      simp only [ho]
      refine vop_sound hT hr (ops := ops) (o := o) (K := fun s' => vtree P ty ops t' s' (Q .normal)) h4 fun g' s2 a' w' hs hr' _ => ih _ t' g' s2 a' w' hc' hr' hs

theorem VWP_orders (hT : TyOK P ty) (hm : P.follows .mixedOrders = true) {id : Nat} {l : List Oper} {Q : Exit → St → Prop} (t : Tr) (hok : covT l.toArray l.toArray.size (Array.replicate l.toArray.size false) t = true)
    (h : vtree P ty l.toArray t s (Q .normal)) : VWP P E (.region id l.toArray true) Q s := by
  intro g a w hr
  refine wp_region_any hm ?_
  exact tree_any hT _ _ t g s a _ hok ⟨hr.size, hr.defers, hr.heap.drew, hr.fresh, hr.tmps, hr.pin⟩ h
end
end Go.Proofs.Ytmiojnibngncaaa
