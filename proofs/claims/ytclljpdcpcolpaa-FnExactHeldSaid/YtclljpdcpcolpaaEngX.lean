/- The value-level engine, twenty-fourth part: loops whose state has tokens that change from round to round. -/
import Derived.Test.YtclljpdcpcolpaaEngU
namespace Go.Proofs.Ytclljpdcpcolpaa
open Go Go.RowKit
set_option linter.unusedVariables false
set_option linter.unusedSimpArgs false

section
variable {P : Program} {E : Env} {tm : Nat → VV} {H : Heap} {nx N : Nat}

/-- A round of a loop has gone well; the tokens that it knows lie below a bound of its own. -/
def NextB {X : Type} (tl : X → List (Nat × VV)) (hl : X → List (Nat × Ent)) (μ : X → Nat) (J : X → Prop) (B : X → Nat) (N : Nat) (x : X) (s' : St) : Prop :=
  ∃ ms H', merges ms s'.H = some H' ∧ ∃ x', J x' ∧ μ x' < μ x ∧ (∀ p ∈ tl x', s'.tm p.1 = p.2) ∧ (∀ p ∈ hl x', H' p.1 = p.2) ∧ B x' ≤ s'.nx ∧ s'.N = N ∧ s'.lim = none
theorem nextB {X : Type} {tl : X → List (Nat × VV)} {hl : X → List (Nat × Ent)} {μ : X → Nat} {J : X → Prop} {B : X → Nat} {x : X} (x' : X) (h1 : J x') (h2 : μ x' < μ x) (h3 : ∀ p ∈ tl x', tm p.1 = p.2) (h4 : ∀ p ∈ hl x', H p.1 = p.2) (h5 : B x' ≤ nx) :
    NextB tl hl μ J B N x ⟨tm, H, nx, N, none⟩ := ⟨[], _, rfl, x', h1, h2, h3, h4, h5, rfl, rfl⟩
theorem nextBM {X : Type} {tl : X → List (Nat × VV)} {hl : X → List (Nat × Ent)} {μ : X → Nat} {J : X → Prop} {B : X → Nat} {x : X} {H' : Heap} (ms : List (Nat × Nat × Nat)) (h0 : merges ms H = some H') (x' : X) (h1 : J x') (h2 : μ x' < μ x) (h3 : ∀ p ∈ tl x', tm p.1 = p.2) (h4 : ∀ p ∈ hl x', H' p.1 = p.2) (h5 : B x' ≤ nx) :
    NextB tl hl μ J B N x ⟨tm, H, nx, N, none⟩ := ⟨ms, H', h0, x', h1, h2, h3, h4, h5, rfl, rfl⟩
theorem VWP_loopB {X : Type} (tl : X → List (Nat × VV)) (hl : X → List (Nat × Ent)) (μ : X → Nat) (J : X → Prop) (B : X → Nat) (x0 : X) {c : Code} {Q : Exit → St → Prop} (hJ : J x0) (h1 : ∀ p ∈ tl x0, tm p.1 = p.2) (h2 : ∀ p ∈ hl x0, H p.1 = p.2) (hB : B x0 ≤ nx)
    (round : ∀ x nx, J x → B x ≤ nx → VWP P E c (thenQ (NextB tl hl μ J B N x) Q) ⟨tmL (tl x), hpL (hl x), nx, N, none⟩) :
    VWP P E (.loop c) Q ⟨tm, H, nx, N, none⟩ := by
  refine VWP_loop (fun m s => ∃ x, J x ∧ m = μ x ∧ (∀ p ∈ tl x, s.tm p.1 = p.2) ∧ (∀ p ∈ hl x, s.H p.1 = p.2) ∧ B x ≤ s.nx ∧ s.N = N ∧ s.lim = none) (μ x0) ⟨x0, hJ, rfl, h1, h2, hB, rfl, rfl⟩ ?_
  rintro m s ⟨x, k1, rfl, k2, k3, k4, k5, k6⟩
  have hw := wk_list k2 k3 (Nat.le_refl s.nx) k6
  rw [k5] at hw
  refine VWP_wk hw (VWP_post (fun e s he => ?_) (round x s.nx k1 k4))
  cases e with
  | normal =>
    obtain ⟨ms, H', j0, x', j1, j2, j3, j4, j5, j6, j7⟩ := he
    exact ⟨{ s with H := H' }, fun g a w hr => (rel_merges hr j0).imp fun g' h => h.1, μ x', j2, x', j1, rfl, j3, j4, j5, j6, j7⟩
  | _ => exact ⟨s, fun g a w hr => ⟨g, hr⟩, he⟩
end
end Go.Proofs.Ytclljpdcpcolpaa
