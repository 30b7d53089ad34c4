/- The orders of descriptors that are not refused, counted, as numbers. -/
import Derived.Test.YtchkbgekmoileaaVC
import Derived.Test.YtchkbgekmoileaaSB
namespace Go.Proofs.Ytchkbgekmoileaa
open Go Go.RowKit
set_option linter.unusedVariables false
set_option linter.unusedSimpArgs false

/-- The sum over all places of a list, of what stands there and what is left. -/
def sumSel (f : DescS → List DescS → Int) : List DescS → List DescS → Int
  | _, [] => 0
  | pre, d :: r => f d (pre ++ r) + sumSel f (pre ++ [d]) r
def cntO : Nat → List Int → List DescS → Int
  | 0, _, _ => 1
  | n + 1, vs, ds => sumSel (fun d rest => if canE d.entries vs = true then cntO n (putE d.entries vs) rest else 0) [] ds
def sumSel2 (g : DescS → List (DescS × Bool) → Int) : List (DescS × Bool) → List (DescS × Bool) → Int
  | _, [] => 0
  | pre, (d, b) :: r => (if b = true then 0 else g d (pre ++ (d, true) :: r)) + sumSel2 g (pre ++ [(d, b)]) r
def cnt2 : Nat → List Int → List (DescS × Bool) → Int
  | 0, _, _ => 1
  | n + 1, vs, ps => sumSel2 (fun d qs => if canE d.entries vs = true then cnt2 n (putE d.entries vs) qs else 0) [] ps
def unD (ps : List (DescS × Bool)) : List DescS := (ps.filter fun p => !p.2).map Prod.fst
theorem unD_app (a b : List (DescS × Bool)) : unD (a ++ b) = unD a ++ unD b := by simp [unD]
theorem sum_eq {f : DescS → List DescS → Int} {g : DescS → List (DescS × Bool) → Int} (h : ∀ d qs, g d qs = f d (unD qs)) : ∀ (r pre : List (DescS × Bool)), sumSel2 g pre r = sumSel f (unD pre) (unD r)
  | [], pre => rfl
  | (d, true) :: r, pre => by
    rw [sumSel2, if_pos rfl, sum_eq h r, unD_app]
    simp [unD]
  | (d, false) :: r, pre => by
    rw [sumSel2, if_neg (by simp), sum_eq h r, h, unD_app, unD_app]
    simp [unD, sumSel]
theorem cnt_eq : ∀ (n : Nat) (vs : List Int) (ps : List (DescS × Bool)), cnt2 n vs ps = cntO n vs (unD ps)
  | 0, vs, ps => rfl
  | n + 1, vs, ps => by
    unfold cnt2 cntO
    rw [sum_eq (f := fun d rest => if canE d.entries vs = true then cntO n (putE d.entries vs) rest else 0)]
    · rfl
    · intro d qs
      split
      · rw [cnt_eq n]
      · rfl
theorem sumSel_le {f : DescS → List DescS → Int} {M : Int} {N : Nat} (h : ∀ d rest, rest.length < N → 0 ≤ f d rest ∧ f d rest ≤ M) : ∀ (r pre : List DescS), pre.length + r.length ≤ N → 0 ≤ sumSel f pre r ∧ sumSel f pre r ≤ r.length * M
  | [], pre, _ => by simp [sumSel]
  | d :: r, pre, hl => by
    simp only [List.length_cons] at hl
    have h1 := h d (pre ++ r) (by simp; omega)
    have h2 := sumSel_le h r (pre ++ [d]) (by simp; omega)
    simp only [sumSel, List.length_cons, Int.natCast_add, Int.add_mul, Int.natCast_one, Int.one_mul]
    omega
theorem cntO_le : ∀ (n : Nat) (vs : List Int) (ds : List DescS), ds.length ≤ 6 → 0 ≤ cntO n vs ds ∧ cntO n vs ds ≤ (6 ^ n : Nat)
  | 0, vs, ds, _ => by simp [cntO]
  | n + 1, vs, ds, hl => by
    have := sumSel_le (f := fun d rest => if canE d.entries vs = true then cntO n (putE d.entries vs) rest else 0) (M := (6 ^ n : Nat)) (N := ds.length) (fun d rest hr => by
      have h1 := cntO_le n (putE d.entries vs) rest (by omega)
      show 0 ≤ (if _ then _ else _ : Int) ∧ (if _ then _ else _ : Int) ≤ _
      split
      · exact h1
      · exact ⟨Int.le_refl _, by omega⟩) ds [] (by simp)
    unfold cntO
    refine ⟨this.1, Int.le_trans this.2 ?_⟩
    rw [Nat.pow_succ]
    have h3 : ds.length * 6 ^ n ≤ 6 ^ n * 6 := by rw [Nat.mul_comm]; exact Nat.mul_le_mul_left _ hl
    exact_mod_cast h3
theorem pow6 {n : Nat} (h : n ≤ 6) : 6 ^ n ≤ 46656 := Nat.pow_le_pow_right (n := 6) (by omega) h
theorem cntO_small {n : Nat} (hn : n ≤ 6) (vs : List Int) {ds : List DescS} (hl : ds.length ≤ 6) : 0 ≤ cntO n vs ds ∧ cntO n vs ds ≤ 46656 := by
  have h1 := cntO_le n vs ds hl
  have h2 := pow6 hn
  omega
theorem unD_len (ps : List (DescS × Bool)) : (unD ps).length ≤ ps.length := by
  unfold unD
  rw [List.length_map]
  exact List.length_filter_le _ _
theorem cnt2_small {n : Nat} (hn : n ≤ 6) (vs : List Int) {ps : List (DescS × Bool)} (hl : ps.length ≤ 6) : 0 ≤ cnt2 n vs ps ∧ cnt2 n vs ps ≤ 46656 := by
  rw [cnt_eq]
  exact cntO_small hn vs (Nat.le_trans (unD_len ps) hl)
theorem unD_zip : ∀ (ds : List DescS), unD (ds.zip (List.replicate ds.length false)) = ds
  | [] => rfl
  | d :: ds => by
    have := unD_zip ds
    simp only [unD, List.length_cons, List.replicate_succ, List.zip_cons_cons, List.filter_cons, Bool.not_false, if_true, List.map_cons] at this ⊢
    rw [this]
/-- One step of the sum. -/
theorem sumSel_at {f : DescS → List DescS → Int} {ds : List DescS} {i : Nat} {d : DescS} (h : ds[i]? = some d) : sumSel f (ds.take i) (ds.drop i) = f d (ds.take i ++ ds.drop (i + 1)) + sumSel f (ds.take (i + 1)) (ds.drop (i + 1)) := by
  obtain ⟨hlt, rfl⟩ := List.getElem?_eq_some_iff.1 h
  rw [List.drop_eq_getElem_cons hlt, sumSel, List.take_add_one, h]
  rfl
theorem sumSel2_at {g : DescS → List (DescS × Bool) → Int} {ps : List (DescS × Bool)} {i : Nat} {d : DescS} {b : Bool} (h : ps[i]? = some (d, b)) : sumSel2 g (ps.take i) (ps.drop i) = (if b = true then 0 else g d (ps.set i (d, true))) + sumSel2 g (ps.take (i + 1)) (ps.drop (i + 1)) := by
  obtain ⟨hlt, he⟩ := List.getElem?_eq_some_iff.1 h
  rw [List.drop_eq_getElem_cons hlt, he, sumSel2, List.take_add_one, h, List.set_eq_take_append_cons_drop, if_pos hlt]
  rfl
theorem zip_set : ∀ {ds : List DescS} {bs : List Bool} {i : Nat} {d : DescS}, ds[i]? = some d → ∀ b : Bool, (ds.zip bs).set i (d, b) = ds.zip (bs.set i b)
  | [], _, i, d, hd, b => by simp at hd
  | d0 :: ds, [], i, d, hd, b => by simp
  | d0 :: ds, b0 :: bs, 0, d, hd, b => by
    simp only [List.getElem?_cons_zero, Option.some.injEq] at hd
    subst hd
    rfl
  | d0 :: ds, b0 :: bs, i + 1, d, hd, b => by
    simp only [List.getElem?_cons_succ] at hd
    simp only [List.zip_cons_cons, List.set_cons_succ, zip_set hd b]
end Go.Proofs.Ytchkbgekmoileaa
