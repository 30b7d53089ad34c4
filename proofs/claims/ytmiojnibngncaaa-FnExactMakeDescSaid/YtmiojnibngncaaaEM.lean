/- The value-level engine, thirty-second part: rows that are written one after the other. -/
import Derived.Test.YtmiojnibngncaaaEL
namespace Go.Proofs.Ytmiojnibngncaaa
open Go Go.RowKit
set_option linter.unusedVariables false
set_option linter.unusedSimpArgs false

/-- The first rows are new, the others as they were. -/
def mixL (new old : List (List PT)) (i : Nat) : List (List PT) := new.take i ++ old.drop i
theorem mixL_zero (new old : List (List PT)) : mixL new old 0 = old := by simp [mixL]
theorem mixL_all {new old : List (List PT)} {n : Nat} (h : new.length = n) (h2 : old.length = n) : mixL new old n = new := by
  unfold mixL
  rw [List.take_of_length_le (by omega), List.drop_eq_nil_of_le (by omega), List.append_nil]
theorem mixL_len {new old : List (List PT)} {n : Nat} (h : new.length = n) (h2 : old.length = n) {i : Nat} (hi : i ≤ n) : (mixL new old i).length = n := by
  simp only [mixL, List.length_append, List.length_take, List.length_drop]
  omega
theorem mixL_at {new old : List (List PT)} {n : Nat} (h : new.length = n) (h2 : old.length = n) {i : Nat} (hi : i < n) {r : List PT} (hr : old[i]? = some r) : (mixL new old i)[i]? = some r := by
  unfold mixL
  rw [List.getElem?_append_right (by rw [List.length_take]; omega), List.length_take, List.getElem?_drop, ← hr]
  congr 1
  omega
theorem mixL_set {new old : List (List PT)} {n : Nat} (h : new.length = n) (h2 : old.length = n) {i : Nat} {r : List PT} (hr : new[i]? = some r) : (mixL new old i).set i r = mixL new old (i + 1) := by
  have hi := (List.getElem?_eq_some_iff.1 hr).1
  refine List.ext_getElem? fun j => ?_
  unfold mixL
  rw [List.getElem?_set]
  by_cases hj : i = j
  · subst hj
    rw [if_pos rfl, if_pos (by simp only [List.length_append, List.length_take, List.length_drop]; omega), List.getElem?_append_left (by rw [List.length_take]; omega), List.getElem?_take]
    rw [if_pos (by omega), hr]
  · rw [if_neg hj]
    rcases Nat.lt_or_ge j i with h3 | h3
    · rw [List.getElem?_append_left (by rw [List.length_take]; omega), List.getElem?_append_left (by rw [List.length_take]; omega), List.getElem?_take, List.getElem?_take, if_pos h3, if_pos (by omega)]
    · rw [List.getElem?_append_right (by rw [List.length_take]; omega), List.getElem?_append_right (by rw [List.length_take]; omega), List.length_take, List.length_take, List.getElem?_drop, List.getElem?_drop]
      congr 1
      omega
theorem mixL_pur {new old : List (List PT)} (h : PurRows new) (h2 : PurRows old) (i : Nat) : PurRows (mixL new old i) := by
  intro r hr
  rcases List.mem_append.1 hr with hr | hr
  · exact h r (List.mem_of_mem_take hr)
  · exact h2 r (List.mem_of_mem_drop hr)
theorem rep_pur {n : Nat} {r : List PT} (h : ∀ c ∈ r, PT.Pur c) : PurRows (List.replicate n r) := by
  intro x hx
  rw [List.eq_of_mem_replicate hx]
  exact h
end Go.Proofs.Ytmiojnibngncaaa
