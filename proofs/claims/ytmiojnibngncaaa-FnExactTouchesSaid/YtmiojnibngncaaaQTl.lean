/- The law of Touches on values. -/
import Derived.Test.YtmiojnibngncaaaQT
import Derived.Test.YtmiojnibngncaaaTD
namespace Go.Proofs.Ytmiojnibngncaaa
open Go Go.RowKit
set_option linter.unusedVariables false
set_option linter.unusedSimpArgs false
set_option maxRecDepth 100000
set_option maxHeartbeats 8000000
attribute [local irreducible] NextN VWP vops vdraw contV contD CallK Guard GuardV NextL Puts Runs RetOK RetQ RetO RetQO thenQ blockQ

theorem asc_ext : ∀ {a b : List Int}, a.Pairwise (· < ·) → b.Pairwise (· < ·) → (∀ x, x ∈ a ↔ x ∈ b) → a = b
  | [], [], _, _, _ => rfl
  | [], y :: b, _, _, h => absurd ((h y).2 (List.mem_cons_self ..)) (by simp)
  | x :: a, [], _, _, h => absurd ((h x).1 (List.mem_cons_self ..)) (by simp)
  | x :: a, y :: b, h1, h2, h => by
    rw [List.pairwise_cons] at h1 h2
    have hxy : x = y := by
      rcases List.mem_cons.1 ((h x).1 (List.mem_cons_self ..)) with e | e
      · exact e
      · rcases List.mem_cons.1 ((h y).2 (List.mem_cons_self ..)) with e2 | e2
        · exact e2.symm
        · have := h1.1 y e2
          have := h2.1 x e
          omega
    subst hxy
    rw [asc_ext h1.2 h2.2 fun z => ?_]
    constructor
    · intro hz
      rcases List.mem_cons.1 ((h z).1 (List.mem_cons_of_mem _ hz)) with e | e
      · subst e; have := h1.1 z hz; omega
      · exact e
    · intro hz
      rcases List.mem_cons.1 ((h z).2 (List.mem_cons_of_mem _ hz)) with e | e
      · subst e; have := h2.1 z hz; omega
      · exact e
theorem cpt_inv (zs : List Int) (hs : zs.Pairwise (· ≤ ·)) : ∀ m, m ≤ zs.length → (Lib.compactUpTo zs.toArray m).Pairwise (· < ·) ∧ ∀ x, x ∈ Lib.compactUpTo zs.toArray m ↔ ∃ j, j < m ∧ zs[j]? = some x
  | 0, _ => by simp [Lib.compactUpTo]
  | m + 1, hm => by
    obtain ⟨h1, h2⟩ := cpt_inv zs hs m (by omega)
    have hlt : m < zs.length := by omega
    have hget : ∀ j, j < zs.length → zs.toArray[j]! = zs[j]! := fun j hj => by simp [hj]
    have hle : ∀ i j (hi : i < zs.length) (hj : j < zs.length), i ≤ j → zs[i] ≤ zs[j] := fun i j hi hj hij => by
      rcases Nat.lt_or_ge i j with c | c
      · exact List.pairwise_iff_getElem.1 hs i j hi hj c
      · obtain rfl : i = j := by omega
        exact Int.le_refl _
    rw [Lib.compactUpTo_succ]
    have hm1 : zs.toArray[m]! = zs[m] := by simp [hlt]
    by_cases hk : Lib.keeps zs.toArray m = true
    · rw [if_pos hk, hm1]
      refine ⟨?_, fun x => ?_⟩
      · rw [List.pairwise_append]
        refine ⟨h1, by simp, fun a ha b hb => ?_⟩
        simp only [List.mem_cons, List.not_mem_nil, or_false] at hb
        subst hb
        obtain ⟨j, hj, hja⟩ := (h2 a).1 ha
        have hjl := (List.getElem?_eq_some_iff.1 hja).1
        have hje := (List.getElem?_eq_some_iff.1 hja).2
        have hmp : 0 < m := by omega
        have hpl : m - 1 < zs.length := by omega
        have hne : zs[m] ≠ zs[m - 1] := by
          intro hh
          have := Lib.keeps_neg (d := zs.toArray) hmp (by rw [hm1]; simp [hpl, hh])
          rw [this] at hk; cases hk
        have a1 := hle j (m - 1) hjl hpl (by omega)
        have a2 := hle (m - 1) m hpl hlt (by omega)
        omega
      · rw [List.mem_append, h2]
        simp only [List.mem_cons, List.not_mem_nil, or_false]
        constructor
        · rintro (⟨j, hj, hx⟩ | rfl)
          · exact ⟨j, by omega, hx⟩
          · exact ⟨m, by omega, List.getElem?_eq_getElem hlt⟩
        · rintro ⟨j, hj, hx⟩
          rcases Nat.lt_or_ge j m with c | c
          · exact .inl ⟨j, c, hx⟩
          · obtain rfl : j = m := by omega
            rw [List.getElem?_eq_getElem hlt] at hx
            exact .inr (Option.some.inj hx).symm
    · rw [if_neg hk, List.append_nil]
      refine ⟨h1, fun x => ?_⟩
      rw [h2]
      constructor
      · rintro ⟨j, hj, hx⟩; exact ⟨j, by omega, hx⟩
      · rintro ⟨j, hj, hx⟩
        rcases Nat.lt_or_ge j m with c | c
        · exact ⟨j, c, hx⟩
        · obtain rfl : j = m := by omega
          have hmp : 0 < j := by
            rcases Nat.eq_zero_or_pos j with z | z
            · subst z
              exact absurd (Lib.keeps_lt_one zs.toArray 0 (by omega)) hk
            · exact z
          have hpl : j - 1 < zs.length := by omega
          refine ⟨j - 1, by omega, ?_⟩
          rw [List.getElem?_eq_getElem hlt] at hx
          rw [List.getElem?_eq_getElem hpl, ← hx]
          congr 1
          by_cases hh : zs[j] = zs[j - 1]
          · exact hh.symm
          · have := Lib.keeps_pos (d := zs.toArray) (m := j) (by rw [hm1]; simpa [hpl] using hh)
            exact absurd this hk
theorem cpt_asc (zs : List Int) : (cpt zs).Pairwise (· < ·) ∧ ∀ x, x ∈ cpt zs ↔ x ∈ zs := by
  have hs : (zs.mergeSort fun x y => decide (x ≤ y)).Pairwise (· ≤ ·) := by
    have := List.pairwise_mergeSort (le := fun x y : Int => decide (x ≤ y)) (fun a b c h1 h2 => by simp at *; omega) (fun a b => by simp; omega) zs
    simpa using this
  obtain ⟨h1, h2⟩ := cpt_inv _ hs _ (Nat.le_refl _)
  refine ⟨h1, fun x => ?_⟩
  have hp := (List.mergeSort_perm zs fun x y => decide (x ≤ y)).mem_iff (a := x)
  rw [← hp]
  refine (h2 x).trans ⟨fun ⟨j, _, hj⟩ => List.mem_of_getElem? hj, fun hx => ?_⟩
  obtain ⟨j, hj⟩ := List.getElem?_of_mem hx
  exact ⟨j, (List.getElem?_eq_some_iff.1 hj).1, hj⟩
theorem touT_asc (xs : List InsS) (k : Nat) : (touT xs k).Pairwise (· < ·) ∧ ∀ x, x ∈ touT xs k ↔ 0 ≤ x ∧ x < k ∧ namT xs x = true := by
  refine ⟨?_, fun x => ?_⟩
  · rw [touT, List.pairwise_map]
    refine List.Pairwise.imp (fun {a b} h => ?_) (List.Pairwise.filter _ (List.pairwise_lt_range (n := k)))
    simpa using h
  · simp only [touT, List.mem_map, List.mem_filter, List.mem_range]
    constructor
    · rintro ⟨o, ⟨h1, h2⟩, rfl⟩
      exact ⟨by simp, by simpa using h1, h2⟩
    · rintro ⟨h1, h2, h3⟩
      refine ⟨x.toNat, ⟨by omega, ?_⟩, by simp; omega⟩
      have : Int.ofNat x.toNat = x := by simp; omega
      rw [this]; exact h3
theorem mem_raw (xs : List InsS) (x : Int) : x ∈ rawT xs xs.length ↔ namT xs x = true := by
  rw [rawT, List.take_length]
  simp only [List.mem_flatMap, namT, List.any_eq_true]
  constructor
  · rintro ⟨e, he, hx⟩
    refine ⟨e, he, ?_⟩
    unfold tchO at hx
    split at hx
    · rename_i h1
      simp only [List.mem_cons, List.not_mem_nil, or_false] at hx
      simp [h1, hx]
    · split at hx
      · rename_i h1 h2
        simp only [List.mem_cons, List.not_mem_nil, or_false] at hx
        simp [h2, hx]
      · simp at hx
  · rintro ⟨e, he, hx⟩
    refine ⟨e, he, ?_⟩
    unfold tchO
    simp only [Bool.or_eq_true, Bool.and_eq_true, beq_iff_eq] at hx
    rcases hx with ⟨h1, h2⟩ | ⟨h1, h2⟩
    · rw [if_pos h1]; simp [h2]
    · rw [if_neg (by omega), if_pos h1]; simp [h2]
theorem tou_same (xs : List InsS) (h : progOkB xs = true) : cpt (rawT xs xs.length) = touT xs 8 := by
  obtain ⟨a1, a2⟩ := cpt_asc (rawT xs xs.length)
  obtain ⟨b1, b2⟩ := touT_asc xs 8
  refine asc_ext a1 b1 fun x => ?_
  rw [a2, b2, mem_raw]
  refine ⟨fun hx => ⟨?_, ?_, hx⟩, fun hx => hx.2.2⟩
  all_goals
    simp only [namT, List.any_eq_true] at hx
    obtain ⟨e, he, hx⟩ := hx
    simp only [progOkB, Bool.and_eq_true, List.all_eq_true] at h
    have ho := h.2 e he
    simp only [Bool.or_eq_true, Bool.and_eq_true, beq_iff_eq] at hx
    unfold InsS.ok at ho
    rcases hx with ⟨h1, h2⟩ | ⟨h1, h2⟩
    · rw [if_pos h1] at ho
      simp [inB] at ho
      omega
    · rw [if_neg (by omega), if_pos h1] at ho
      simp [inB] at ho
      omega
end Go.Proofs.Ytmiojnibngncaaa
