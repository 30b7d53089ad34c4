/- Numbers in decimal digits, as lists of bytes. -/
import Derived.Lib.ItoaNum
import Derived.Lib.ItoaLen
namespace Go.Proofs.YtchkbgekmoileaaDoor
open Go
def told (n : Int) : ByteArray := ⟨(Lib.itoa n).toArray⟩
theorem ba_app (a b : List UInt8) : (⟨a.toArray⟩ : ByteArray) ++ ⟨b.toArray⟩ = ⟨(a ++ b).toArray⟩ := by
  apply ByteArray.ext
  simp
theorem told_pos {n : Int} (h0 : 0 ≤ n) (h1 : n < 10) : told n = ⟨#[UInt8.ofNat (48 + n).toNat]⟩ := by
  unfold told Lib.itoa
  rw [if_neg (by omega), Lib.decDigits_one (by omega), show 48 + n.toNat = (48 + n).toNat by omega]
theorem told_neg {n : Int} (h0 : n < 0) (h1 : -10 < n) : told n = ⟨#[45]⟩ ++ ⟨#[UInt8.ofNat (48 - n).toNat]⟩ := by
  unfold told Lib.itoa
  rw [if_pos h0, Lib.decDigits_one (by omega), show 48 + n.natAbs = (48 - n).toNat by omega]
  exact (ba_app [45] [_]).symm
theorem told_more {n m l : Int} (h : n ≤ -10 ∨ 10 ≤ n) (hm : n.tdiv 10 = m) (hl : (if n.tmod 10 < 0 then -(n.tmod 10) else n.tmod 10) = l) : told n = told m ++ ⟨#[UInt8.ofNat (48 + l).toNat]⟩ := by
  unfold told
  refine Eq.trans ?_ (ba_app (Lib.itoa m) [_]).symm
  congr 2
  rcases h with h | h
  · obtain ⟨u, rfl⟩ : ∃ u : Nat, n = -(u : Int) := ⟨n.natAbs, by omega⟩
    have h1 : (-(u : Int)).tdiv 10 = -((u / 10 : Nat) : Int) := by rw [Int.neg_tdiv, Int.tdiv_eq_ediv_of_nonneg (by omega)]; rfl
    have h2 : (-(u : Int)).tmod 10 = -((u % 10 : Nat) : Int) := by rw [Int.neg_tmod, Int.tmod_eq_emod_of_nonneg (by omega)]; rfl
    rw [h1] at hm
    rw [h2] at hl
    subst hm
    have h3 : (48 + l).toNat = 48 + u % 10 := by split at hl <;> omega
    rw [h3]
    unfold Lib.itoa
    rw [if_pos (by omega), if_pos (by omega)]
    simp only [Int.natAbs_neg, Int.natAbs_natCast]
    rw [Lib.decDigits, dif_neg (by omega)]
    rfl
  · obtain ⟨u, rfl⟩ : ∃ u : Nat, n = (u : Int) := ⟨n.natAbs, by omega⟩
    have h1 : (u : Int).tdiv 10 = ((u / 10 : Nat) : Int) := by rw [Int.tdiv_eq_ediv_of_nonneg (by omega)]; rfl
    have h2 : (u : Int).tmod 10 = ((u % 10 : Nat) : Int) := by rw [Int.tmod_eq_emod_of_nonneg (by omega)]; rfl
    rw [h1] at hm
    rw [h2] at hl
    subst hm
    have h3 : (48 + l).toNat = 48 + u % 10 := by split at hl <;> omega
    rw [h3]
    unfold Lib.itoa
    rw [if_neg (by omega), if_neg (by omega)]
    simp only [Int.toNat_natCast]
    rw [Lib.decDigits, dif_neg (by omega)]
theorem told_size {n : Int} (h0 : -9223372036854775808 ≤ n) (h1 : n ≤ 9223372036854775807) : (told n).size ≤ 21 := by
  have := Lib.itoa_length_le n h0 h1
  exact this
end Go.Proofs.YtchkbgekmoileaaDoor
