/- Several texts in one: KA KE HD HE. -/
import Derived.Test.YtljhhhlobkoocaaSL
import Derived.Test.YtljhhhlobkoocaaEc
import Derived.Test.YtljhhhlobkoocaaSI
import Derived.Test.YtljhhhlobkoocaaYB
import Derived.Test.YtljhhhlobkoocaaNA
import Derived.Test.YtljhhhlobkoocaaHC
import Derived.Test.YtljhhhlobkoocaaEf
import Derived.Test.YtljhhhlobkoocaaLB
/- What both StackOk give. -/
namespace Go.Proofs.Ytljhhhlobkoocaa
open Go Go.RowKit
set_option linter.unusedVariables false
set_option linter.unusedSimpArgs false
set_option maxRecDepth 100000
set_option maxHeartbeats 4000000
attribute [local irreducible] VWP vops vdraw contV contD CallK Guard GuardV NextL Puts Runs RetOK RetQ RetO RetQO thenQ blockQ

theorem indexFuncF_ok (xs : List FrameD) (f : FuncId) (row : List PT) (p : FrameD → Bool) (hl : xs.length ≤ 1048576) (hf : ∀ x, SatP Try.prog f [.agg x.cells, .fp row] (.bool (p x)) []) : SatP Try.prog 78 [.fr 32 (rowsF xs), .clo f [.fp row]] (.int .i64 (firstI p xs)) [] := by
  refine satP_of_body hT Try.func78 (by kernel_rfl) rfl (rs := [.tmp 4]) rfl (n := 19) rfl (by simp) rfl (by simp) fun E hE => ?_
  unfold St.init
  have F := @rowsF_len
  repeat' first
    | refine wSq fun _ hK => ?_
    | refine wRg ?_
    | refine wDr ?_
    | refine VWP_block ?_
    | refine VWP_skip ?_
    | refine VWP_exit ?_
    | refine VWP_ret ?_
    | (refine hK _ ?_; clear hK)
    | (clear hK; refine hK _ ?_; clear hK)
    | (clear hK; clear hK; refine hK _ ?_; clear hK)
    | (clear hK; clear hK; clear hK; refine hK _ ?_; clear hK)
    | (simp only [wHb, reduceCtorEq] at hb <;> try (exfalso; omega))
    | refine wCd (fun hb => ?_) fun hb => ?_
    | simp only [go_sem, Nat.reduceLT, Nat.reduceLeDiff, Nat.reduceEqDiff, Nat.reduceAdd, Nat.reduceMul, Nat.reduceSub, reduceCtorEq, F]
    | simp (disch := omega) only [decide_eq_true_eq, if_pos, if_neg, wrap_id, le_maxLen, and_true, true_and, if_true, ite_true]
    | refine wGd (fun hb => ?_) fun hb => ?_
  refine VWP_loopL (X := Nat) (fun i => [(0, .fr 32 (rowsF xs)), (1, .clo f [.fp row]), (7, .int .i64 xs.length), (8, .int .i64 i)]) (fun _ => []) (fun i => xs.length - i)
    (fun i => i ≤ xs.length ∧ ∀ (j : Nat) (y : FrameD), j < i → xs[j]? = some y → p y = false) 0 0 ⟨by simp, by simp⟩ (by simp [updV]) (by simp) (by simp) ?_
  rintro i nx ⟨hi, hdone⟩ hB
  rcases Nat.lt_or_ge i xs.length with hlt | hge
  · obtain ⟨e, he⟩ : ∃ e, xs[i]? = some e := ⟨_, List.getElem?_eq_getElem hlt⟩
    have hre := rowsF_at he
    have F := And.intro @rowsF_len hre
    repeat' first
      | refine wSq fun _ hK => ?_
      | refine wRg ?_
      | refine wDr ?_
      | refine VWP_block ?_
      | refine VWP_skip ?_
      | refine VWP_exit ?_
      | refine VWP_ret ?_
      | (refine hK _ ?_; clear hK)
      | (clear hK; refine hK _ ?_; clear hK)
      | (clear hK; clear hK; refine hK _ ?_; clear hK)
      | (clear hK; clear hK; clear hK; refine hK _ ?_; clear hK)
      | (simp only [wHb, reduceCtorEq] at hb <;> try (exfalso; omega))
      | refine wCd (fun hb => ?_) fun hb => ?_
      | refine wCa (c := by first | exact hf e) (k := ?_)
      | simp only [go_sem, Nat.reduceLT, Nat.reduceLeDiff, Nat.reduceEqDiff, Nat.reduceAdd, Nat.reduceMul, Nat.reduceSub, reduceCtorEq, F]
      | simp (disch := omega) only [decide_eq_true_eq, if_pos, if_neg, wrap_id, le_maxLen, and_true, true_and, if_true, ite_true]
      | refine wGd (fun hb => ?_) fun hb => ?_
    · refine wLf ?_
      have hp : p e = true := by assumption
      rw [firstI_hit he hp hdone]
    · have hp : p e = false := by assumption
      have hw := wrap_id (x := (i : Int) + 1) (by omega)
      refine nextL (i + 1) ⟨by omega, fun j y hj hy => ?_⟩ (by omega) (by simp [updV, tmL, hw]) (by simp) (by simp)
      rcases Nat.lt_or_ge j i with h | h
      · exact hdone j y h hy
      · obtain rfl : j = i := by omega
        rw [he] at hy; cases hy; exact hp
  · obtain rfl : i = xs.length := by omega
    have F := @rowsF_len
    repeat' first
      | refine wSq fun _ hK => ?_
      | refine wRg ?_
      | refine wDr ?_
      | refine VWP_block ?_
      | refine VWP_skip ?_
      | refine VWP_exit ?_
      | refine VWP_ret ?_
      | (refine hK _ ?_; clear hK)
      | (clear hK; refine hK _ ?_; clear hK)
      | (clear hK; clear hK; refine hK _ ?_; clear hK)
      | (clear hK; clear hK; clear hK; refine hK _ ?_; clear hK)
      | (simp only [wHb, reduceCtorEq] at hb <;> try (exfalso; omega))
      | refine wCd (fun hb => ?_) fun hb => ?_
      | simp only [go_sem, Nat.reduceLT, Nat.reduceLeDiff, Nat.reduceEqDiff, Nat.reduceAdd, Nat.reduceMul, Nat.reduceSub, reduceCtorEq, F]
      | simp (disch := omega) only [decide_eq_true_eq, if_pos, if_neg, wrap_id, le_maxLen, and_true, true_and, if_true, ite_true]
      | refine wGd (fun hb => ?_) fun hb => ?_
    refine wLf ?_
    rw [firstI_miss fun j y hy => hdone j y (List.getElem?_eq_some_iff.1 hy).1 hy]
theorem containsF_ok (xs : List FrameD) (f : FuncId) (row : List PT) (p : FrameD → Bool) (hl : xs.length ≤ 1048576) (hf : ∀ x, SatP Try.prog f [.agg x.cells, .fp row] (.bool (p x)) []) : SatP Try.prog 59 [.fr 32 (rowsF xs), .clo f [.fp row]] (.bool (xs.any p)) [] := by
  refine satP_of_body hT Try.func59 (by kernel_rfl) rfl (rs := [.tmp 4]) rfl (n := 9) rfl (by simp) rfl (by simp) fun E hE => ?_
  unfold St.init
  have F := (Eq.refl 0)
  repeat' first
    | refine wSq fun _ hK => ?_
    | refine wRg ?_
    | refine wDr ?_
    | refine VWP_block ?_
    | refine VWP_skip ?_
    | refine VWP_exit ?_
    | refine VWP_ret ?_
    | (refine hK _ ?_; clear hK)
    | (clear hK; refine hK _ ?_; clear hK)
    | (clear hK; clear hK; refine hK _ ?_; clear hK)
    | (clear hK; clear hK; clear hK; refine hK _ ?_; clear hK)
    | (simp only [wHb, reduceCtorEq] at hb <;> try (exfalso; omega))
    | refine wCd (fun hb => ?_) fun hb => ?_
    | refine wCa (c := by first | exact indexFuncF_ok xs f row p hl hf) (k := ?_)
    | simp only [go_sem, Nat.reduceLT, Nat.reduceLeDiff, Nat.reduceEqDiff, Nat.reduceAdd, Nat.reduceMul, Nat.reduceSub, reduceCtorEq, F]
    | simp (disch := omega) only [decide_eq_true_eq, if_pos, if_neg, wrap_id, le_maxLen, and_true, true_and, if_true, ite_true]
    | refine wGd (fun hb => ?_) fun hb => ?_
  refine wLf ?_
  rw [← firstI_any]


def stB (s : StoreD) (f : FrameD) : Bool := frmB s f && !(f.phase == 5)
noncomputable def stackB (s : StoreD) (st : List FrameD) : Bool := bP (StoreP s) && decide (st.length ≤ 130) && st.all (stB s)
def StoreD.row (th td te : TypeId) (s : StoreD) : List PT := [.list th (rowsH s.heads), .list td (rowsD te s.descs)]
theorem frameTest_ok (s : StoreD) (f : FrameD) (hs : s.small) : SatP Try.prog 60 [.agg f.cells, .fp (s.row 40 38 76)] (.bool (!stB s f)) [] := by
  have hc := isFrame_ok s f hs
  refine satP_of_body hT Try.func60 (by kernel_rfl) rfl (rs := [.tmp 3]) rfl (n := 13) rfl (by simp) rfl (by simp) fun E hE => ?_
  unfold St.init
  unfold StoreD.cells FrameD.cells at *
  unfold StoreD.row
  have F := (Eq.refl 0)
  repeat' first
    | refine wSq fun _ hK => ?_
    | refine wRg ?_
    | refine wDr ?_
    | refine VWP_block ?_
    | refine VWP_skip ?_
    | refine VWP_exit ?_
    | refine VWP_ret ?_
    | (refine hK _ ?_; clear hK)
    | (clear hK; refine hK _ ?_; clear hK)
    | (clear hK; clear hK; refine hK _ ?_; clear hK)
    | (clear hK; clear hK; clear hK; refine hK _ ?_; clear hK)
    | (simp only [wHb, reduceCtorEq] at hb <;> try (exfalso; omega))
    | refine wCd (fun hb => ?_) fun hb => ?_
    | refine wCa (c := by first | exact hc) (k := ?_)
    | simp only [go_sem, Nat.reduceLT, Nat.reduceLeDiff, Nat.reduceEqDiff, Nat.reduceAdd, Nat.reduceMul, Nat.reduceSub, reduceCtorEq, F]
    | simp (disch := omega) only [decide_eq_true_eq, if_pos, if_neg, wrap_id, le_maxLen, and_true, true_and, if_true, ite_true]
    | refine wGd (fun hb => ?_) fun hb => ?_
  all_goals refine wLf ?_
  all_goals simp_all [stB]
theorem any_not {α : Type} (p : α → Bool) : ∀ (xs : List α), (xs.any fun x => !p x) = !xs.all p
  | [] => rfl
  | x :: xs => by simp [List.any_cons, List.all_cons, any_not p xs]
theorem implStackOk_ok (s : StoreD) (st : List FrameD) (hs : s.small) (hl : st.length ≤ 1048576) : SatP Try.prog 32 [.agg (s.cells 40 38 76), .fr 32 (rowsF st)] (.bool (stackB s st)) [] := by
  have hc := implStoreOk_ok s hs
  have hn : ∀ f : FrameD, SatP Try.prog 60 [.agg f.cells, .fp (s.row 40 38 76)] (.bool (!stB s f)) [] := fun f => frameTest_ok s f hs
  have hc2 := containsF_ok st 60 (s.row 40 38 76) (fun f => !stB s f) hl hn
  rw [any_not] at hc2
  have he : stackB s st = (bP (StoreP s) && decide (st.length ≤ 130) && st.all (stB s)) := rfl
  rw [he]
  clear hn he
  generalize st.all (stB s) = A at *
  generalize bP (StoreP s) = B at *
  refine satP_of_body hT Try.func32 (by kernel_rfl) rfl (rs := [.tmp 4]) rfl (n := 18) rfl (by simp) rfl (by simp) fun E hE => ?_
  unfold St.init
  unfold StoreD.cells at *
  unfold StoreD.row at hc2
  have F := @rowsF_len
  repeat' first
    | refine wSq fun _ hK => ?_
    | refine wRg ?_
    | refine wDr ?_
    | refine VWP_block ?_
    | refine VWP_skip ?_
    | refine VWP_exit ?_
    | refine VWP_ret ?_
    | (refine hK _ ?_; clear hK)
    | (clear hK; refine hK _ ?_; clear hK)
    | (clear hK; clear hK; refine hK _ ?_; clear hK)
    | (clear hK; clear hK; clear hK; refine hK _ ?_; clear hK)
    | (simp only [wHb, reduceCtorEq] at hb <;> try (exfalso; omega))
    | refine wCd (fun hb => ?_) fun hb => ?_
    | refine wCa (c := by first | exact hc | exact hc2) (k := ?_)
    | simp only [go_sem, Nat.reduceLT, Nat.reduceLeDiff, Nat.reduceEqDiff, Nat.reduceAdd, Nat.reduceMul, Nat.reduceSub, reduceCtorEq, F]
    | simp (disch := omega) only [decide_eq_true_eq, if_pos, if_neg, wrap_id, le_maxLen, and_true, true_and, if_true, ite_true]
    | refine wGd (fun hb => ?_) fun hb => ?_
  all_goals refine wLf ?_
  all_goals cases A
  all_goals cases B
  all_goals simp_all
  all_goals omega
end Go.Proofs.Ytljhhhlobkoocaa

/- What both Held give, and the law on values. -/
namespace Go.Proofs.Ytljhhhlobkoocaa
open Go Go.RowKit
set_option linter.unusedVariables false
set_option linter.unusedSimpArgs false
set_option maxRecDepth 100000
set_option maxHeartbeats 4000000
attribute [local irreducible] VWP vops vdraw contV contD CallK Guard GuardV NextL Puts Runs RetOK RetQ RetO RetQO thenQ blockQ
attribute [local irreducible] NextB

def liesB (hs : List HeadD) (j : Nat) : Bool := match hs[j]? with
  | some h => decide (0 ≤ h.desc)
  | none => false
/-- The objects, ahead of a place, over which a descriptor lies. -/
def heldN (hs : List HeadD) (i : Nat) : List Int := ((List.range i).filter (liesB hs)).map fun (j : Nat) => ((j : Nat) : Int)
noncomputable def heldL (s : StoreD) : List Int := if bP (StoreP s) = true then heldN s.heads s.heads.length else []
theorem heldN_yes {hs : List HeadD} {i : Nat} {h : HeadD} (hh : hs[i]? = some h) (hd : 0 ≤ h.desc) : heldN hs (i + 1) = heldN hs i ++ [(i : Int)] := by
  unfold heldN
  rw [List.range_succ, List.filter_append, List.map_append]
  simp [List.filter_cons, liesB, hh, hd]
theorem heldN_no {hs : List HeadD} {i : Nat} {h : HeadD} (hh : hs[i]? = some h) (hd : ¬ 0 ≤ h.desc) : heldN hs (i + 1) = heldN hs i := by
  unfold heldN
  rw [List.range_succ, List.filter_append, List.map_append]
  simp [List.filter_cons, liesB, hh, hd]
theorem heldN_len (hs : List HeadD) (i : Nat) : (heldN hs i).length ≤ i := by
  unfold heldN
  rw [List.length_map]
  exact Nat.le_trans (List.length_filter_le _ _) (by simp)
theorem rowsN_one (w : List Int) (f : Int) : rowsN w ++ [[.int .i64 f]] = rowsN (w ++ [f]) := by simp [rowsN, encN]
theorem implHeld_ok (s : StoreD) (r : List Int) (hr : heldL s = r) (hs : s.small) : SatP Try.prog 13 [.agg (s.cells 40 38 76)] (.rf 0 r.length) [(3, rowsN r)] := by
  have hc := implStoreOk_ok s hs
  obtain ⟨f1, f2, f3⟩ := hs
  refine satP_of_body hT Try.func13 (by kernel_rfl) rfl (rs := [.tmp 2]) rfl (n := 28) rfl (by simp) rfl (by simpa using rowsN_pur r) fun E hE => ?_
  unfold St.init
  unfold StoreD.cells at *
  cases hp : bP (StoreP s) with
  | false =>
    rw [hp] at hc
    rw [heldL, if_neg (by rw [hp]; exact fun h => nomatch h)] at hr
    subst hr
    have F := (Eq.refl 0)
    repeat' first
      | refine wSq fun _ hK => ?_
      | refine wRg ?_
      | refine wDr ?_
      | refine VWP_block ?_
      | refine VWP_skip ?_
      | refine VWP_exit ?_
      | refine VWP_ret ?_
      | (refine hK _ ?_; clear hK)
      | (clear hK; refine hK _ ?_; clear hK)
      | (clear hK; clear hK; refine hK _ ?_; clear hK)
      | (clear hK; clear hK; clear hK; refine hK _ ?_; clear hK)
      | (simp only [wHb, reduceCtorEq] at hb <;> try (exfalso; omega))
      | refine wCd (fun hb => ?_) fun hb => ?_
      | refine wCa (c := by first | exact hc) (k := ?_)
      | simp only [go_sem, Nat.reduceLT, Nat.reduceLeDiff, Nat.reduceEqDiff, Nat.reduceAdd, Nat.reduceMul, Nat.reduceSub, reduceCtorEq, F]
      | simp (disch := omega) only [decide_eq_true_eq, if_pos, if_neg, wrap_id, le_maxLen, and_true, true_and, if_true, ite_true]
      | refine wGd (fun hb => ?_) fun hb => ?_
    exact ret_rf (T := 1) (by simp only [go_sem, Nat.reduceLT, Nat.reduceLeDiff, Nat.reduceEqDiff, Nat.reduceAdd, Nat.reduceMul, Nat.reduceSub, reduceCtorEq]; try simp) (by simp only [go_sem, Nat.reduceLT, Nat.reduceLeDiff, Nat.reduceEqDiff, Nat.reduceAdd, Nat.reduceMul, Nat.reduceSub, reduceCtorEq]; try rfl) rfl (rowsN_pur [])
  | true =>
    rw [hp] at hc
    rw [heldL, if_pos hp] at hr
    subst hr
    have F := @rowsH_len
    repeat' first
      | refine wSq fun _ hK => ?_
      | refine wRg ?_
      | refine wDr ?_
      | refine VWP_block ?_
      | refine VWP_skip ?_
      | refine VWP_exit ?_
      | refine VWP_ret ?_
      | (refine hK _ ?_; clear hK)
      | (clear hK; refine hK _ ?_; clear hK)
      | (clear hK; clear hK; refine hK _ ?_; clear hK)
      | (clear hK; clear hK; clear hK; refine hK _ ?_; clear hK)
      | (simp only [wHb, reduceCtorEq] at hb <;> try (exfalso; omega))
      | refine wCd (fun hb => ?_) fun hb => ?_
      | refine wCa (c := by first | exact hc) (k := ?_)
      | simp only [go_sem, Nat.reduceLT, Nat.reduceLeDiff, Nat.reduceEqDiff, Nat.reduceAdd, Nat.reduceMul, Nat.reduceSub, reduceCtorEq, F]
      | simp (disch := omega) only [decide_eq_true_eq, if_pos, if_neg, wrap_id, le_maxLen, and_true, true_and, if_true, ite_true]
      | refine wGd (fun hb => ?_) fun hb => ?_
    refine VWP_loopB (X := Nat × Nat) (fun x => [(1, .bp 0 0), (3, .rf x.2 (heldN s.heads x.1).length), (12, .fr 40 (rowsH s.heads)), (13, .int .i64 s.heads.length), (14, .int .i64 x.1)]) (fun x => [(0, .box [.fr 40 (rowsH s.heads), .fr 38 (rowsD 76 s.descs)]), (x.2, .root 3 (rowsN (heldN s.heads x.1)))]) (fun x => s.heads.length - x.1)
      (fun x => x.1 ≤ s.heads.length ∧ 1 ≤ x.2) (fun x => x.2 + 1) (0, 1) ⟨by simp, by simp⟩ (by simp [updV, heldN]) (by simp [updH, heldN, rowsN]) (by simp) ?_
    rintro ⟨i, T⟩ nx ⟨hi, hTg⟩ hB
    simp only at hi hTg hB
    have hne0 : (0 : Nat) ≠ T := by omega
    have hne1 : T ≠ 0 := by omega
    have hw := wrap_id (x := (i : Int) + 1) (by omega)
    rcases Nat.lt_or_ge i s.heads.length with hlt | hge
    · obtain ⟨h, hh⟩ : ∃ h, s.heads[i]? = some h := ⟨_, List.getElem?_eq_getElem hlt⟩
      have hre := rowsH_at hh
      have n0 : nx ≠ 0 := by omega
      have m0 : (0 : Nat) ≠ nx := by omega
      have n1 : nx ≠ T := by omega
      have m1 : T ≠ nx := by omega
      have n2 : nx + 1 ≠ T := by omega
      have m2 : T ≠ nx + 1 := by omega
      have n3 : nx + 1 + 1 ≠ T := by omega
      have m3 : T ≠ nx + 1 + 1 := by omega
      have hln := heldN_len s.heads i
      have ht := rowsN_take (heldN s.heads i)
      have ho := rowsN_one (heldN s.heads i) i
      by_cases hd : 0 ≤ h.desc
      · have hsu := heldN_yes hh hd
        have F := And.intro @rowsH_len (And.intro hre (And.intro hd (And.intro hne0 (And.intro hne1 (And.intro n0 (And.intro m0 (And.intro n1 (And.intro m1 (And.intro n2 (And.intro m2 (And.intro n3 (And.intro m3 (And.intro @rowsN_len (And.intro ht (And.intro ho @Nat.le_refl)))))))))))))))
        repeat' first
          | refine wSq fun _ hK => ?_
          | refine wRg ?_
          | refine wDr ?_
          | refine VWP_block ?_
          | refine VWP_skip ?_
          | refine VWP_exit ?_
          | refine VWP_ret ?_
          | (refine hK _ ?_; clear hK)
          | (clear hK; refine hK _ ?_; clear hK)
          | (clear hK; clear hK; refine hK _ ?_; clear hK)
          | (clear hK; clear hK; clear hK; refine hK _ ?_; clear hK)
          | (simp only [wHb, reduceCtorEq] at hb <;> try (exfalso; omega))
          | refine wCd (fun hb => ?_) fun hb => ?_
          | simp only [go_sem, Nat.reduceLT, Nat.reduceLeDiff, Nat.reduceEqDiff, Nat.reduceAdd, Nat.reduceMul, Nat.reduceSub, reduceCtorEq, F]
          | simp (disch := omega) only [decide_eq_true_eq, if_pos, if_neg, wrap_id, le_maxLen, and_true, true_and, if_true, ite_true]
          | refine wGd (fun hb => ?_) fun hb => ?_
        refine nextB (i + 1, nx + 1 + 1) ⟨by simp only; omega, by simp only; omega⟩ (by simp only; omega) ?_ ?_ (by first | omega | (simp; try omega))
        · simp [updV, tmL, hw, hsu]
        · simp [updH, hpL, hsu, hne0, m0, n0, n1, m1, n3, m3]
          try omega
      · have hsu := heldN_no hh hd
        have F := And.intro @rowsH_len (And.intro hre (And.intro hd (And.intro hne0 (And.intro hne1 (And.intro n0 (And.intro m0 (And.intro n1 (And.intro m1 (And.intro n2 (And.intro m2 (And.intro @rowsN_len (And.intro ht (And.intro ho @Nat.le_refl)))))))))))))
        repeat' first
          | refine wSq fun _ hK => ?_
          | refine wRg ?_
          | refine wDr ?_
          | refine VWP_block ?_
          | refine VWP_skip ?_
          | refine VWP_exit ?_
          | refine VWP_ret ?_
          | (refine hK _ ?_; clear hK)
          | (clear hK; refine hK _ ?_; clear hK)
          | (clear hK; clear hK; refine hK _ ?_; clear hK)
          | (clear hK; clear hK; clear hK; refine hK _ ?_; clear hK)
          | (simp only [wHb, reduceCtorEq] at hb <;> try (exfalso; omega))
          | refine wCd (fun hb => ?_) fun hb => ?_
          | simp only [go_sem, Nat.reduceLT, Nat.reduceLeDiff, Nat.reduceEqDiff, Nat.reduceAdd, Nat.reduceMul, Nat.reduceSub, reduceCtorEq, F]
          | simp (disch := omega) only [decide_eq_true_eq, if_pos, if_neg, wrap_id, le_maxLen, and_true, true_and, if_true, ite_true]
          | refine wGd (fun hb => ?_) fun hb => ?_
        refine nextB (i + 1, T) ⟨by simp only; omega, by simp only; omega⟩ (by simp only; omega) ?_ ?_ (by first | omega | (simp; try omega))
        · simp [updV, tmL, hw, hsu]
        · simp [updH, hpL, hsu, hne0, m0, n0, n1, m1]
          try omega
    · obtain rfl : i = s.heads.length := by omega
      have F := And.intro @rowsH_len (And.intro hne0 hne1)
      repeat' first
        | refine wSq fun _ hK => ?_
        | refine wRg ?_
        | refine wDr ?_
        | refine VWP_block ?_
        | refine VWP_skip ?_
        | refine VWP_exit ?_
        | refine VWP_ret ?_
        | (refine hK _ ?_; clear hK)
        | (clear hK; refine hK _ ?_; clear hK)
        | (clear hK; clear hK; refine hK _ ?_; clear hK)
        | (clear hK; clear hK; clear hK; refine hK _ ?_; clear hK)
        | (simp only [wHb, reduceCtorEq] at hb <;> try (exfalso; omega))
        | refine wCd (fun hb => ?_) fun hb => ?_
        | simp only [go_sem, Nat.reduceLT, Nat.reduceLeDiff, Nat.reduceEqDiff, Nat.reduceAdd, Nat.reduceMul, Nat.reduceSub, reduceCtorEq, F]
        | simp (disch := omega) only [decide_eq_true_eq, if_pos, if_neg, wrap_id, le_maxLen, and_true, true_and, if_true, ite_true]
        | refine wGd (fun hb => ?_) fun hb => ?_
      exact ret_rf (T := T) (by simp only [go_sem, Nat.reduceLT, Nat.reduceLeDiff, Nat.reduceEqDiff, Nat.reduceAdd, Nat.reduceMul, Nat.reduceSub, reduceCtorEq, hne0, hne1]; try simp) (by simp only [go_sem, Nat.reduceLT, Nat.reduceLeDiff, Nat.reduceEqDiff, Nat.reduceAdd, Nat.reduceMul, Nat.reduceSub, reduceCtorEq, hne0, hne1]; try rfl) (rowsN_len _).symm (rowsN_pur _)
theorem heldL_len (s : StoreD) : (heldL s).length ≤ s.heads.length := by
  unfold heldL
  split
  · exact heldN_len _ _
  · simp
end Go.Proofs.Ytljhhhlobkoocaa

/- A step of a stack, in one statement each; the program's finish. -/
namespace Go.Proofs.Ytljhhhlobkoocaa
open Go Go.RowKit
set_option linter.unusedVariables false
set_option linter.unusedSimpArgs false
set_option maxRecDepth 100000
set_option maxHeartbeats 4000000
attribute [local irreducible] VWP vops vdraw contV contD CallK Guard GuardV NextL Puts Runs RetOK RetQ RetO RetQO thenQ blockQ
attribute [local irreducible] NextN

/-- A step that moves nothing: the stack is full, and its last frame meets another descriptor. -/
def stuckB (s : StoreD) (fs : List FrameD) : Bool := match fs.getLast? with
  | none => true
  | some f => decide (0 ≤ (driveF s f).2.2) && decide (fs.length = 130)
theorem stuck_help {s : StoreD} {fs : List FrameD} (h : stuckB s fs = true) : helpF s fs = (s, fs) := by
  rcases List.eq_nil_or_concat fs with rfl | ⟨init, f, rfl⟩
  · rfl
  · rw [List.concat_eq_append] at *
    simp [stuckB] at h
    rw [helpF_snoc, if_pos h.1, if_pos (by have := h.2; omega)]
theorem helpStuck_ok (s : StoreD) (fs : List FrameD) (hi : HelpI s fs) (hs : s.small) (h : stuckB s fs = true) :
    SatO Try.prog 45 [.bp 0 0, .fr 32 (rowsF fs)] [.box [.rf 1 s.heads.length, .rf 2 s.descs.length], .root 40 (rowsH s.heads), .root 38 (rowsD 76 s.descs)]
      (.rf 3 fs.length) [.box [.rf 1 s.heads.length, .rf 2 s.descs.length], .root 40 (rowsH s.heads), .root 38 (rowsD 76 s.descs), .root 32 (rowsF fs)] := by
  rcases List.eq_nil_or_concat fs with rfl | ⟨init, f, rfl⟩
  · exact helpNil_ok s hs
  · rw [List.concat_eq_append] at *
    simp [stuckB] at h
    obtain ⟨k, d, j, e, o, hd, ha, h1, h2, h3, h4⟩ := drv_at hi.st (hi.fr f (by simp))
    rw [driveF_at ha] at h
    have := helpFull_ok s init f k d j e o hd ha h1 h2 hs _ rfl h.1 (by have := h.2; omega)
    simpa using this
theorem helpMoves_ok (s : StoreD) (fs : List FrameD) (hi : HelpI s fs) (hs : s.small) (h : stuckB s fs = false) (r : StoreD × List FrameD) (hr : helpF s fs = r) :
    SatO Try.prog 45 [.bp 0 0, .fr 32 (rowsF fs)] [.box [.rf 1 s.heads.length, .rf 2 s.descs.length], .root 40 (rowsH s.heads), .root 38 (rowsD 76 s.descs)]
      (.rf 5 r.2.length) [.box [.rf 3 s.heads.length, .rf 4 s.descs.length], .root 40 (rowsH s.heads), .root 38 (rowsD 76 s.descs), .root 40 (rowsH r.1.heads), .root 38 (rowsD 76 r.1.descs), .root 32 (rowsF r.2)] := by
  rcases List.eq_nil_or_concat fs with rfl | ⟨init, f, rfl⟩
  · simp [stuckB] at h
  · rw [List.concat_eq_append] at *
    simp [stuckB] at h
    have hlen := hi.len
    simp at hlen
    obtain ⟨k, d, j, e, o, hd, ha, h1, h2, h3, h4⟩ := drv_at hi.st (hi.fr f (by simp))
    rw [helpF_snoc] at hr
    rw [driveF_at ha] at h hr
    by_cases hm : 0 ≤ (driveM s f k d e o hd).2.2
    · have hst := (driveM_step hi.st (hi.fr f (by simp)) ha h1 h2 h3 h4).same hm
      rw [if_pos hm, if_neg (by have := h hm; omega)] at hr
      subst hr
      have := helpPush_ok s init f k d j e o hd ha h1 h2 hs _ rfl hm (driveM_bnd hm) (by have := h hm; omega)
      simp only [hst] at this
      simpa using this
    · rw [if_neg hm] at hr
      by_cases h5 : (driveM s f k d e o hd).2.1.phase = 5
      · rw [if_pos h5] at hr
        subst hr
        exact helpPop_ok s init f k d j e o hd ha h1 h2 hs _ rfl hm h5 (by omega)
      · rw [if_neg h5] at hr
        subst hr
        have := helpPut_ok s init f k d j e o hd ha h1 h2 hs _ rfl hm h5 (by omega)
        simpa using this

theorem finF_step (m : Nat) {s : StoreD} {fs : List FrameD} (h : fs ≠ []) : finF (m + 1) s fs = ((finF m (helpF s fs).1 (helpF s fs).2).1, (finF m (helpF s fs).1 (helpF s fs).2).2.1, (finF m (helpF s fs).1 (helpF s fs).2).2.2 + 1) := by rw [finF, if_neg h]
theorem finF_nil (m : Nat) (s : StoreD) : finF m s [] = (s, [], 0) := by cases m <;> simp [finF]
/-- What a loop of finish knows: how many steps there were, the store, the stack. -/
structure FinX where
  i : Nat
  s : StoreD
  fs : List FrameD
def FinX.tl (tf : TypeId) (m : Nat) (x : FinX) : List (Nat × VV) := if x.i = 0 then [(0, .bp 0 0), (1, .fr tf (rowsF x.fs)), (2, .int .i64 m), (8, .int .i64 x.i)] else [(0, .bp 0 0), (1, .rf 5 x.fs.length), (2, .int .i64 m), (8, .int .i64 x.i)]
def FinX.hl (th td te tf : TypeId) (nh nd : Nat) (x : FinX) : List (Nat × Ent) := if x.i = 0 then [(0, .box [.rf 1 nh, .rf 2 nd]), (1, .root th (rowsH x.s.heads)), (2, .root td (rowsD te x.s.descs))]
  else [(0, .box [.rf 3 nh, .rf 4 nd]), (3, .root th (rowsH x.s.heads)), (4, .root td (rowsD te x.s.descs)), (5, .root tf (rowsF x.fs))]
structure FinJ (m : Nat) (s0 : StoreD) (fs0 : List FrameD) (x : FinX) : Prop where
  inv : HelpI x.s x.fs
  tin : x.s.tiny
  le : x.i ≤ m
  hl : x.s.heads.length = s0.heads.length
  dl : x.s.descs.length = s0.descs.length
  zero : x.i = 0 → x.s = s0 ∧ x.fs = fs0
  res : finF m s0 fs0 = ((finF (m - x.i) x.s x.fs).1, (finF (m - x.i) x.s x.fs).2.1, x.i + (finF (m - x.i) x.s x.fs).2.2)
theorem finJ_step {m : Nat} {s0 : StoreD} {fs0 : List FrameD} {x : FinX} (h : FinJ m s0 fs0 x) (hi : x.i < m) (hne : x.fs ≠ []) : FinJ m s0 fs0 ⟨x.i + 1, (helpF x.s x.fs).1, (helpF x.s x.fs).2⟩ := by
  have hk := helpF_keeps h.inv
  refine ⟨hk.inv, helpF_tiny h.inv h.tin, hi, by rw [← h.hl]; exact hk.hl, by rw [← h.dl]; exact hk.dl, fun hh => absurd hh (Nat.succ_ne_zero _), ?_⟩
  rw [h.res]
  simp only
  have e : m - x.i = (m - (x.i + 1)) + 1 := by omega
  rw [e, finF_step _ hne]
  simp only [Prod.mk.injEq, true_and]
  omega
theorem finish_ok (s0 : StoreD) (fs0 : List FrameD) (m : Nat) (hi : HelpI s0 fs0) (hs : s0.tiny) (hm : 1 ≤ m) (hm2 : m ≤ 1048576) (hne : fs0 ≠ []) (hst : stuckB s0 fs0 = false) (r : StoreD × List FrameD × Nat) (hr : finF m s0 fs0 = r) :
    SatO Try.prog 33 [.bp 0 0, .fr 32 (rowsF fs0), .int .i64 m] [.box [.rf 1 s0.heads.length, .rf 2 s0.descs.length], .root 40 (rowsH s0.heads), .root 38 (rowsD 76 s0.descs)]
      (.tup [.int .i64 r.2.2, .bool (decide (r.2.1 = []))]) [.box [.rf 3 s0.heads.length, .rf 4 s0.descs.length], .dead, .dead, .root 40 (rowsH r.1.heads), .root 38 (rowsD 76 r.1.descs)] := by
  refine satO_of_body hT Try.func33 (by kernel_rfl) rfl (rs := [.tmp 6, .tmp 7]) rfl (n := 26) rfl (by simp) rfl (m := 3) rfl ⟨⟨rfl, rfl⟩, trivial, trivial, by simp [keptL, newOk, rowsH_pur, rowsD_pur]⟩ fun E hE => ?_
  unfold St.initO
  have F := (Eq.refl 0)
  repeat' first
    | refine wSq fun _ hK => ?_
    | refine wRg ?_
    | refine wDr ?_
    | refine VWP_block ?_
    | refine VWP_skip ?_
    | refine VWP_exit ?_
    | refine VWP_ret ?_
    | (refine hK _ ?_; clear hK)
    | (clear hK; refine hK _ ?_; clear hK)
    | (clear hK; clear hK; refine hK _ ?_; clear hK)
    | (clear hK; clear hK; clear hK; refine hK _ ?_; clear hK)
    | (simp only [wHb, reduceCtorEq] at hb <;> try (exfalso; omega))
    | refine wCd (fun hb => ?_) fun hb => ?_
    | simp only [go_sem, Nat.reduceLT, Nat.reduceLeDiff, Nat.reduceEqDiff, Nat.reduceAdd, Nat.reduceMul, Nat.reduceSub, reduceCtorEq, F]
    | simp (disch := omega) only [decide_eq_true_eq, if_pos, if_neg, wrap_id, le_maxLen, and_true, true_and, if_true, ite_true]
    | refine wGd (fun hb => ?_) fun hb => ?_
  refine VWP_loopN hE (X := FinX) (FinX.tl 32 m) (FinX.hl 40 38 76 32 s0.heads.length s0.descs.length) (fun x => m - x.i) (FinJ m s0 fs0) [0, 1, 2, 3, 4, 5] ⟨0, s0, fs0⟩ ⟨hi, hs, by simp, rfl, rfl, fun _ => ⟨rfl, rfl⟩, by simp⟩ (by decide) (by decide) (by simp [updV, FinX.tl, renV, renA, renC]) (by simp [updH, HpE, FinX.hl, renH_at, renE, renC, rowsH_pur, rowsD_pur]) ?_
  rintro ⟨i, s, fs⟩ hJ
  have hinv := hJ.inv
  have hle : i ≤ m := hJ.le
  have hhl : s.heads.length = s0.heads.length := hJ.hl
  have hdl : s.descs.length = s0.descs.length := hJ.dl
  have hres := hJ.res
  have htin := hJ.tin
  simp only at hinv hres htin
  have hlen := hinv.len
  have hw := wrap_id (x := (i : Int) + 1) (by omega)
  obtain ⟨⟨s1, fs1⟩, h1⟩ : ∃ q, helpF s fs = q := ⟨_, rfl⟩
  rcases Nat.eq_zero_or_pos i with hi0 | hi0
  · subst hi0
    obtain ⟨rfl, rfl⟩ := hJ.zero rfl
    have hc := helpMoves_ok s fs hi hs.small hst _ h1
    have hJ2 := finJ_step hJ (by show 0 < m; omega) hne
    simp only [h1] at hJ2
    have hpos : 0 < fs.length := List.length_pos_iff.2 hne
    have hm0 : (0 : Int) < (m : Int) := by omega
    have hp0 : (0 : Int) < (fs.length : Int) := by omega
    simp only [FinX.tl, FinX.hl, if_pos]
    have F := And.intro @rowsF_len (And.intro @rowsH_len (And.intro @rowsD_len (And.intro @rowsH_pur (And.intro @rowsD_pur (And.intro hp0 hm0)))))
    repeat' first
      | refine wSq fun _ hK => ?_
      | refine wRg ?_
      | refine wDr ?_
      | refine VWP_block ?_
      | refine VWP_skip ?_
      | refine VWP_exit ?_
      | refine VWP_ret ?_
      | (refine hK _ ?_; clear hK)
      | (clear hK; refine hK _ ?_; clear hK)
      | (clear hK; clear hK; refine hK _ ?_; clear hK)
      | (clear hK; clear hK; clear hK; refine hK _ ?_; clear hK)
      | (simp only [wHb, reduceCtorEq] at hb <;> try (exfalso; omega))
      | refine wCd (fun hb => ?_) fun hb => ?_
      | refine wOw [0, 1, 2] (c := by exact hc) (k := ?_)
      | simp only [go_sem, Nat.reduceLT, Nat.reduceLeDiff, Nat.reduceEqDiff, Nat.reduceAdd, Nat.reduceMul, Nat.reduceSub, reduceCtorEq, F]
      | simp (disch := omega) only [decide_eq_true_eq, if_pos, if_neg, wrap_id, le_maxLen, and_true, true_and, if_true, ite_true]
      | refine wGd (fun hb => ?_) fun hb => ?_
    all_goals refine nextN [] rfl [0, 1, 2, 6, 7, 8] ⟨1, s1, fs1⟩ rfl (by decide) (by decide) hJ2 (by simp only; omega) (by simp [updV, tmL, FinX.tl, renV, renA, renC]) (by simp [updH, hpL, FinX.hl, renH_at, renE, renC, rowsH_pur, rowsD_pur, rowsF_pur])
  · have hi1 : ¬ i = 0 := by omega
    simp only [FinX.tl, FinX.hl, if_neg hi1]
    by_cases hgo : fs ≠ [] ∧ i < m
    · obtain ⟨hne1, him⟩ := hgo
      have hpos : 0 < fs.length := List.length_pos_iff.2 hne1
      have hm0 : (i : Int) < (m : Int) := by omega
      have hp0 : (0 : Int) < (fs.length : Int) := by omega
      have hJ2 := finJ_step hJ him hne1
      simp only [h1] at hJ2
      rcases (Bool.eq_false_or_eq_true (stuckB s fs)) with hsk | hsk
      · have hc := helpStuck_ok s fs hinv htin.small hsk
        rw [hhl, hdl] at hc
        rw [stuck_help hsk] at h1
        cases h1
        have F := And.intro @rowsF_len (And.intro @rowsF_take (And.intro @rowsF_pur (And.intro @rowsH_len (And.intro @rowsD_len (And.intro @rowsH_pur (And.intro @rowsD_pur (And.intro hp0 hm0)))))))
        repeat' first
          | refine wSq fun _ hK => ?_
          | refine wRg ?_
          | refine wDr ?_
          | refine VWP_block ?_
          | refine VWP_skip ?_
          | refine VWP_exit ?_
          | refine VWP_ret ?_
          | (refine hK _ ?_; clear hK)
          | (clear hK; refine hK _ ?_; clear hK)
          | (clear hK; clear hK; refine hK _ ?_; clear hK)
          | (clear hK; clear hK; clear hK; refine hK _ ?_; clear hK)
          | (simp only [wHb, reduceCtorEq] at hb <;> try (exfalso; omega))
          | refine wCd (fun hb => ?_) fun hb => ?_
          | refine wOw [0, 3, 4] (c := by exact hc) (k := ?_)
          | simp only [go_sem, Nat.reduceLT, Nat.reduceLeDiff, Nat.reduceEqDiff, Nat.reduceAdd, Nat.reduceMul, Nat.reduceSub, reduceCtorEq, F]
          | simp (disch := omega) only [decide_eq_true_eq, if_pos, if_neg, wrap_id, le_maxLen, and_true, true_and, if_true, ite_true]
          | refine wGd (fun hb => ?_) fun hb => ?_
        all_goals refine nextN [] rfl [0, 1, 2, 3, 4, 6] ⟨i + 1, s, fs⟩ rfl (by decide) (by decide) hJ2 (by simp only; omega) (by simp [updV, tmL, FinX.tl, renV, renA, renC, hw]) (by simp [updH, hpL, FinX.hl, renH_at, renE, renC, rowsH_pur, rowsD_pur, rowsF_pur])
      · have hc := helpMoves_ok s fs hinv htin.small hsk _ h1
        rw [hhl, hdl] at hc
        have F := And.intro @rowsF_len (And.intro @rowsF_take (And.intro @rowsF_pur (And.intro @rowsH_len (And.intro @rowsD_len (And.intro @rowsH_pur (And.intro @rowsD_pur (And.intro hp0 hm0)))))))
        repeat' first
          | refine wSq fun _ hK => ?_
          | refine wRg ?_
          | refine wDr ?_
          | refine VWP_block ?_
          | refine VWP_skip ?_
          | refine VWP_exit ?_
          | refine VWP_ret ?_
          | (refine hK _ ?_; clear hK)
          | (clear hK; refine hK _ ?_; clear hK)
          | (clear hK; clear hK; refine hK _ ?_; clear hK)
          | (clear hK; clear hK; clear hK; refine hK _ ?_; clear hK)
          | (simp only [wHb, reduceCtorEq] at hb <;> try (exfalso; omega))
          | refine wCd (fun hb => ?_) fun hb => ?_
          | refine wOw [0, 3, 4] (c := by exact hc) (k := ?_)
          | simp only [go_sem, Nat.reduceLT, Nat.reduceLeDiff, Nat.reduceEqDiff, Nat.reduceAdd, Nat.reduceMul, Nat.reduceSub, reduceCtorEq, F]
          | simp (disch := omega) only [decide_eq_true_eq, if_pos, if_neg, wrap_id, le_maxLen, and_true, true_and, if_true, ite_true]
          | refine wGd (fun hb => ?_) fun hb => ?_
        all_goals refine nextN [] rfl [0, 1, 2, 6, 7, 8] ⟨i + 1, s1, fs1⟩ rfl (by decide) (by decide) hJ2 (by simp only; omega) (by simp [updV, tmL, FinX.tl, renV, renA, renC, hw]) (by simp [updH, hpL, FinX.hl, renH_at, renE, renC, rowsH_pur, rowsD_pur, rowsF_pur])
    · have hfin : finF (m - i) s fs = (s, fs, 0) := by
        by_cases hf : fs = []
        · subst hf; exact finF_nil _ _
        · have h3 : ¬ i < m := fun h => hgo ⟨hf, h⟩
          have : m - i = 0 := by omega
          rw [this]; rfl
      rw [hfin, hr] at hres
      simp only at hres
      subst hres
      have t1 := rowsH_take s.heads
      have t2 := rowsD_take 76 s.descs
      rw [hhl] at t1
      rw [hdl] at t2
      have hdn : decide ((fs.length : Int) = 0) = decide (fs = []) := by
        cases fs with
        | nil => rfl
        | cons f fs => simp; omega
      have hbn : ((fs.length : Int) == 0) = decide (fs = []) := by
        cases fs with
        | nil => rfl
        | cons f fs => simp; omega
      have hgo2 : 0 < (fs.length : Int) → ¬ (i : Int) < (m : Int) := fun h hh => hgo ⟨fun h2 => by subst h2; simp at h, by omega⟩
      have F := And.intro @rowsF_len hbn
      repeat' first
        | refine wSq fun _ hK => ?_
        | refine wRg ?_
        | refine wDr ?_
        | refine VWP_block ?_
        | refine VWP_skip ?_
        | refine VWP_exit ?_
        | refine VWP_ret ?_
        | (refine hK _ ?_; clear hK)
        | (clear hK; refine hK _ ?_; clear hK)
        | (clear hK; clear hK; refine hK _ ?_; clear hK)
        | (clear hK; clear hK; clear hK; refine hK _ ?_; clear hK)
        | (simp only [wHb, reduceCtorEq] at hb <;> try (exfalso; omega))
        | refine wCd (fun hb => ?_) fun hb => ?_
        | simp only [go_sem, Nat.reduceLT, Nat.reduceLeDiff, Nat.reduceEqDiff, Nat.reduceAdd, Nat.reduceMul, Nat.reduceSub, reduceCtorEq, F]
        | simp (disch := omega) only [decide_eq_true_eq, if_pos, if_neg, wrap_id, le_maxLen, and_true, true_and, if_true, ite_true]
        | refine wGd (fun hb => ?_) fun hb => ?_
      all_goals first
        | (exfalso; simp_all; done)
        | (exfalso; have := hgo2 (by assumption); simp_all; done)
        | skip
      all_goals refine retO_mk [] rfl [.box [.rf 3 s0.heads.length, .rf 4 s0.descs.length], .dead, .dead] rfl (by simp [keepsL, updH, hpL]) (acc1 := _) (by simp only [go_sem, Nat.reduceLT, Nat.reduceLeDiff, Nat.reduceEqDiff, Nat.reduceAdd, Nat.reduceMul, Nat.reduceSub, reduceCtorEq, exEs, exOCs, exOC, rowsH_len, rowsD_len, hhl, hdl, t1, t2, Nat.le_refl]; try rfl) (by simp only [go_sem, Nat.reduceLT, Nat.reduceLeDiff, Nat.reduceEqDiff, Nat.reduceAdd, Nat.reduceMul, Nat.reduceSub, reduceCtorEq, vres]; rfl) (acc := _) (by simp only [go_sem, Nat.reduceLT, Nat.reduceLeDiff, Nat.reduceEqDiff, Nat.reduceAdd, Nat.reduceMul, Nat.reduceSub, reduceCtorEq, wrap, exOV, exOAs, exOA, exOC, hbn]; try rfl) (by simp) (by simp [rootOf])
end Go.Proofs.Ytljhhhlobkoocaa

/- The reference's Finish. -/
namespace Go.Proofs.Ytljhhhlobkoocaa
open Go Go.RowKit
set_option linter.unusedVariables false
set_option linter.unusedSimpArgs false
set_option maxRecDepth 100000
set_option maxHeartbeats 4000000
attribute [local irreducible] VWP vops vdraw contV contD CallK Guard GuardV NextL Puts Runs RetOK RetQ RetO RetQO thenQ blockQ
attribute [local irreducible] NextN

noncomputable def finOk (s : StoreD) (fs : List FrameD) (m : Int) : Bool := stackB s fs && inB m 0 2000
noncomputable def finishR (s : StoreD) (fs : List FrameD) (m : Int) : StoreD × Int × Bool :=
  if finOk s fs m = true then ((finF m.toNat s fs).1, ((finF m.toNat s fs).2.2 : Nat), decide ((finF m.toNat s fs).2.1 = [])) else (s, 0, false)
theorem stack_help {s : StoreD} {fs : List FrameD} (h : stackB s fs = true) : HelpI s fs := by
  simp only [stackB, Bool.and_eq_true, decide_eq_true_eq, List.all_eq_true] at h
  exact help_of (bP_iff.1 h.1.1) h.1.2 fun f hf => by
    have := h.2 f hf
    simp only [stB, Bool.and_eq_true] at this
    exact this.1
structure SFX where
  i : Nat
  s : StoreD
  fs : List FrameD
  junk : List FrameD
end Go.Proofs.Ytljhhhlobkoocaa
