/- A call that is handed rows of its caller's own in which slices lie that came in. -/
import Derived.Test.YtchkbgekmoileaaEc
import Derived.Test.YtchkbgekmoileaaEf
namespace Go.Proofs.Ytchkbgekmoileaa
open Go Go.RowKit
set_option linter.unusedVariables false
set_option linter.unusedSimpArgs false
set_option maxHeartbeats 4000000

section
variable {P : Program} {E : Env} {g g' : Gh} {H : Heap} {s : St} {a : Act} {w w' : World}
theorem fzRows_app (a b : List (List PT)) : fzRows a ++ fzRows b = fzRows (a ++ b) := by simp [fzRows]
theorem fzRows_len (a : List (List PT)) : (fzRows a).length = a.length := by simp [fzRows]
/-- A slice of the call's own in which slices lie that came in, as a call reads it. -/
theorem rd_root_fz (h : HRel P E g H w) {T : Nat} {e : TypeId} {rows : List (List PT)} (hT : H T = .root e (fzRows rows)) (hp : frRows rows = true) : Rd P (botEnv w) (.list e rows) (cutv rows.length (g.hd T [])) := by
  rcases h.node T e (fzRows rows) hT [] e (fzRows rows) rfl with ⟨h1, h2⟩ | ⟨b, cap, cur, h1, h2, h3, h4, h5, h6, h7, h8⟩
  · have : rows = [] := by simpa [fzRows] using h2
    subst this
    rw [h1]
    exact rd_nil
  rw [fzRows_len] at h1 h5
  have hcell : ∀ (i j : Nat) (r : List PT) (c : PT), rows[i]? = some r → r[j]? = some c → ∃ u, cur[i * P.cellsOf e + j]? = some u ∧ Rd P (botEnv w) c u := by
    intro i j r c hr hc
    have hs : frCell c = true := List.all_eq_true.mp (List.all_eq_true.mp hp r (List.mem_of_getElem? hr)) c (List.mem_of_getElem? hc)
    obtain ⟨_, h9⟩ := h8 i (r.map fzC) (by simp [fzRows, hr])
    obtain ⟨u, h10, h11⟩ := h9 j (fzC c) (by simp [hc])
    refine ⟨u, h10, ?_⟩
    cases c with
    | list e2 rows2 => exact rd_frame (x := .list e2 rows2) h.frm h11
    | int => exact h11
    | bool => exact h11
    | str => exact h11
    | _ => simp [frCell] at hs
  have hsub : ∀ (i j : Nat), ∃ f : Path → Value, ∀ (r : List PT) (e2 : TypeId) (rows2 : List (List PT)), rows[i]? = some r → r[j]? = some (.list e2 rows2) →
      cur[i * P.cellsOf e + j]? = some (f []) ∧ ∀ p e' rows', At p (.list e2 rows2) = some (e', rows') → RdNode P (botEnv w) e' rows' (fun i j => f (p ++ [(i, j)])) (f p) := by
    intro i j
    by_cases hx : ∃ (r : List PT) (e2 : TypeId) (rows2 : List (List PT)), rows[i]? = some r ∧ r[j]? = some (.list e2 rows2)
    · obtain ⟨r, e2, rows2, hr, hc⟩ := hx
      obtain ⟨u, h9, fh, h10, h11⟩ := hcell i j r _ hr hc
      refine ⟨fh, fun r' e' rows' hr' hc' => ?_⟩
      rw [hr] at hr'
      injection hr' with hr'
      subst hr'
      rw [hc] at hc'
      injection hc' with hc'
      injection hc' with q1 q2
      subst q1
      subst q2
      exact ⟨by rw [h9, h10], h11⟩
    · exact ⟨fun _ => undef, fun r e2 rows2 hr hc => absurd ⟨r, e2, rows2, hr, hc⟩ hx⟩
  refine ⟨fun p => match p with
    | [] => cutv rows.length (g.hd T [])
    | (i, j) :: p => Classical.choose (hsub i j) p, rfl, fun p e' rows' hat => ?_⟩
  cases p with
  | nil =>
    simp only [At, Option.some.injEq, Prod.mk.injEq] at hat
    obtain ⟨rfl, rfl⟩ := hat
    refine ⟨_, cap, by rw [h1]; rfl, h5, h6, .inr ⟨b, 0, rfl, fun i r hr => ?_⟩⟩
    obtain ⟨h9, _⟩ := h8 i (r.map fzC) (by simp [fzRows, hr])
    refine ⟨by simpa using h9, fun j c hc => ?_⟩
    obtain ⟨u, h10, h11⟩ := hcell i j r c hr hc
    refine ⟨u, ⟨(Array.getElem?_eq_some_iff.1 h4).1, fun h => h, by rw [Nat.zero_add]; exact cell_of_heap h4 h10⟩, ?_⟩
    cases c with
    | list e2 rows2 =>
      have := (Classical.choose_spec (hsub i j) r e2 rows2 hr hc).1
      exact Option.some.inj (h10.symm.trans this)
    | int => exact h11
    | bool => exact h11
    | str => exact h11
    | _ => exact h11.elim
  | cons x q =>
    obtain ⟨i, j⟩ := x
    simp only [At] at hat
    cases hr : rows[i]? with
    | none => rw [hr] at hat; simp at hat
    | some r =>
      rw [hr] at hat
      simp only [Option.getD_some] at hat
      cases hc : r[j]? with
      | none => rw [hc] at hat; simp at hat
      | some c =>
        rw [hc] at hat
        simp only [Option.bind_some] at hat
        cases c with
        | list e2 rows2 => exact (Classical.choose_spec (hsub i j) r e2 rows2 hr hc).2 q e' rows' hat
        | _ => cases q <;> simp [At] at hat

/-- A call that is handed a slice of the caller's own and one in which slices lie that came in, and gives a number. -/
theorem sem_of_fz {f : FuncId} {nx T1 n1 T2 n2 : Nat} {e1 e2 : TypeId} {r1 r2 : List (List PT)} {k : IntKind} {m : Int} (hp1 : PurRows r1) (hp2 : frRows r2 = true) (hS : SatP P f [.fr e1 r1, .fr e2 r2] (.int k m) [])
    (h1 : H T1 = .root e1 r1) (hn1 : n1 = r1.length) (h2 : H T2 = .root e2 (fzRows r2)) (hn2 : n2 = r2.length) : SemRun P f [.rf T1 n1, .rf T2 n2] H nx H 0 (.int k m) := by
  refine ⟨hS.fn, fun E g s a w vals hH hnx hlim h hlen hargs => ?_⟩
  subst hH
  subst hnx
  subst hn1
  subst hn2
  refine (hS.run w vals (by simpa using hlen) fun j x u hx hu => ?_).mono fun ex w' he => ?_
  · match j with
    | 0 =>
      simp only [List.getElem?_cons_zero, Option.some.injEq] at hx
      subst hx
      obtain ⟨_, _, hv⟩ := hargs 0 (.rf T1 r1.length) u rfl hu
      rw [hv (by simp [h1, Ent.isRoot])]
      have := rd_root h.heap h1 hp1 (Nat.le_refl _)
      rw [List.take_length] at this
      exact this
    | 1 =>
      simp only [List.getElem?_cons_succ, List.getElem?_cons_zero, Option.some.injEq] at hx
      subst hx
      obtain ⟨_, _, hv⟩ := hargs 1 (.rf T2 r2.length) u rfl hu
      rw [hv (by simp [h2, Ent.isRoot])]
      exact rd_root_fz h.heap h2 hp2
    | j + 2 => simp at hx
  · obtain ⟨val, g', rfl, q1, q2, q3⟩ := he
    obtain ⟨g2, k1, k2, k3, _⟩ := rel_import h (l := []) (by simp [St.room, hlim]) q1 q2 (fun x hx => by simp at hx) rfl q3
    exact ⟨val, g2, rfl, k1, k3, q3⟩
end
end Go.Proofs.Ytchkbgekmoileaa
