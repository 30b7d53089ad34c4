/- What both AddRead give, and the law. -/
import Derived.Test.YtchkbgekmoileaaDJ
namespace Go.Proofs.Ytchkbgekmoileaa
open Go Go.RowKit
set_option linter.unusedVariables false
set_option linter.unusedSimpArgs false
set_option maxRecDepth 100000
set_option maxHeartbeats 4000000
attribute [local irreducible] VWP vops vdraw contV contD CallK Guard GuardV NextL Puts Runs RetOK RetQ RetO RetQO thenQ blockQ

noncomputable def addBad (es : List EntS) (e : EntS) : Bool := !bP (OpenP es) || !e.ok || decide (0 ≤ openedI es e.object)
/-- What comes of an entry that is to be added. -/
noncomputable def addReadL (es : List EntS) (e : EntS) : List EntS × Int := if addBad es e = true then (es, 1) else if es.length = 6 then (es, 2) else (es ++ [e], 0)
theorem addReadL_len (es : List EntS) (e : EntS) : (addReadL es e).1.length ≤ 6 ∨ (addReadL es e).1 = es := by
  unfold addReadL
  split
  · exact .inr rfl
  · rename_i h
    split
    · exact .inr rfl
    · left
      have ho : bP (OpenP es) = true := by simp [addBad] at h; exact h.1.1
      have hp : OpenP es := by
        by_cases hp : OpenP es
        · exact hp
        · rw [bP_false hp] at ho; cases ho
      have := hp.2
      simp
      omega
theorem rowsE_app (es : List EntS) (e : EntS) : rowsE es ++ [[.int .i64 e.object, .int .i64 e.version, .int .i64 e.old, .int .i64 e.new, .bool e.write]] = rowsE (es ++ [e]) := by simp [rowsE, EntS.enc]
theorem add_bad1 {es : List EntS} {e : EntS} (h : bP (OpenP es) = false) : addReadL es e = (es, 1) := by simp [addReadL, addBad, h]
theorem add_bad2 {es : List EntS} {e : EntS} (h : e.ok = false) : addReadL es e = (es, 1) := by simp [addReadL, addBad, h]
theorem add_bad3 {es : List EntS} {e : EntS} (h : 0 ≤ openedI es e.object) : addReadL es e = (es, 1) := by simp [addReadL, addBad, h]
theorem add_many {es : List EntS} {e : EntS} (h1 : bP (OpenP es) = true) (h2 : e.ok = true) (h3 : ¬ 0 ≤ openedI es e.object) (h : es.length = 6) : addReadL es e = (es, 2) := by simp [addReadL, addBad, h1, h2, h3, h]
theorem add_done {es : List EntS} {e : EntS} (h1 : bP (OpenP es) = true) (h2 : e.ok = true) (h3 : ¬ 0 ≤ openedI es e.object) (h : es.length ≠ 6) : addReadL es e = (es ++ [e], 0) := by simp [addReadL, addBad, h1, h2, h3, h]

theorem specAddRead_ok (es : List EntS) (o ver x : Int) (r : List EntS × Int) (hr : addReadL es ⟨o, ver, x, x, false⟩ = r) (hl : es.length ≤ 1048576) : SatP Try.prog 53 [.fr 70 (rowsE es), .int .i64 o, .int .i64 ver, .int .i64 x]
    (.tup [.rf 0 r.1.length, .int .i64 r.2]) [(70, rowsE r.1)] := by
  refine satP_of_body hT Try.func53 (by kernel_rfl) rfl (rs := [.tmp 8, .tmp 9]) rfl (n := 44) rfl (by simp) rfl (by simpa using rowsE_pur _) fun E hE => ?_
  unfold St.init
  have F := And.intro @rowsE_len @rowsE_scal
  repeat' first
    | refine wSq fun _ hK => ?_
    | refine wRg ?_
    | refine wDr ?_
    | refine VWP_block ?_
    | refine VWP_skip ?_
    | refine VWP_exit ?_
    | refine VWP_ret ?_
    | (refine hK _ ?_; clear hK)
    | (clear hK; refine hK _ ?_; clear hK)
    | (clear hK; clear hK; refine hK _ ?_; clear hK)
    | (clear hK; clear hK; clear hK; refine hK _ ?_; clear hK)
    | (simp only [wHb, reduceCtorEq] at hb <;> try (exfalso; omega))
    | refine wCd (fun hb => ?_) fun hb => ?_
    | refine wCa (c := by first | exact specOpen_ok es hl | exact l6Entry_ok ⟨o, ver, x, x, false⟩ | exact specOpened_ok es o hl | exact l6Copy_ok es (by omega)) (k := ?_)
    | simp only [go_sem, Nat.reduceLT, Nat.reduceLeDiff, Nat.reduceEqDiff, Nat.reduceAdd, Nat.reduceMul, Nat.reduceSub, reduceCtorEq, F]
    | simp (disch := omega) only [decide_eq_true_eq, if_pos, if_neg, wrap_id, le_maxLen, and_true, true_and, if_true, ite_true]
    | refine wGd (fun hb => ?_) fun hb => ?_
  · have h := add_bad1 (e := ⟨o, ver, x, x, false⟩) (es := es) (by assumption)
    rw [h] at hr
    subst hr
    exact ret_rfs (T := 1) (by simp only [go_sem, Nat.reduceLT, Nat.reduceLeDiff, Nat.reduceEqDiff, Nat.reduceAdd, Nat.reduceMul, Nat.reduceSub, reduceCtorEq]) (by simp only [go_sem, Nat.reduceLT, Nat.reduceLeDiff, Nat.reduceEqDiff, Nat.reduceAdd, Nat.reduceMul, Nat.reduceSub, reduceCtorEq]) rfl (by simp only [go_sem, Nat.reduceLT, Nat.reduceLeDiff, Nat.reduceEqDiff, Nat.reduceAdd, Nat.reduceMul, Nat.reduceSub, reduceCtorEq]; try rfl) rfl (rowsE_len es).symm (rowsE_pur es)
  · have h := add_bad2 (e := ⟨o, ver, x, x, false⟩) (es := es) (by assumption)
    rw [h] at hr
    subst hr
    exact ret_rfs (T := 1) (by simp only [go_sem, Nat.reduceLT, Nat.reduceLeDiff, Nat.reduceEqDiff, Nat.reduceAdd, Nat.reduceMul, Nat.reduceSub, reduceCtorEq]) (by simp only [go_sem, Nat.reduceLT, Nat.reduceLeDiff, Nat.reduceEqDiff, Nat.reduceAdd, Nat.reduceMul, Nat.reduceSub, reduceCtorEq]) rfl (by simp only [go_sem, Nat.reduceLT, Nat.reduceLeDiff, Nat.reduceEqDiff, Nat.reduceAdd, Nat.reduceMul, Nat.reduceSub, reduceCtorEq]; try rfl) rfl (rowsE_len es).symm (rowsE_pur es)
  · have h := add_bad3 (e := ⟨o, ver, x, x, false⟩) (es := es) (by assumption)
    rw [h] at hr
    subst hr
    exact ret_rfs (T := 1) (by simp only [go_sem, Nat.reduceLT, Nat.reduceLeDiff, Nat.reduceEqDiff, Nat.reduceAdd, Nat.reduceMul, Nat.reduceSub, reduceCtorEq]) (by simp only [go_sem, Nat.reduceLT, Nat.reduceLeDiff, Nat.reduceEqDiff, Nat.reduceAdd, Nat.reduceMul, Nat.reduceSub, reduceCtorEq]) rfl (by simp only [go_sem, Nat.reduceLT, Nat.reduceLeDiff, Nat.reduceEqDiff, Nat.reduceAdd, Nat.reduceMul, Nat.reduceSub, reduceCtorEq]; try rfl) rfl (rowsE_len es).symm (rowsE_pur es)
  · have h := add_many (e := ⟨o, ver, x, x, false⟩) (es := es) (by assumption) (by assumption) (by assumption) (by simp at hb; omega)
    rw [h] at hr
    subst hr
    exact ret_rfs (T := 1) (by simp only [go_sem, Nat.reduceLT, Nat.reduceLeDiff, Nat.reduceEqDiff, Nat.reduceAdd, Nat.reduceMul, Nat.reduceSub, reduceCtorEq]) (by simp only [go_sem, Nat.reduceLT, Nat.reduceLeDiff, Nat.reduceEqDiff, Nat.reduceAdd, Nat.reduceMul, Nat.reduceSub, reduceCtorEq]) rfl (by simp only [go_sem, Nat.reduceLT, Nat.reduceLeDiff, Nat.reduceEqDiff, Nat.reduceAdd, Nat.reduceMul, Nat.reduceSub, reduceCtorEq]; try rfl) rfl (rowsE_len es).symm (rowsE_pur es)
  · have h := add_done (e := ⟨o, ver, x, x, false⟩) (es := es) (by assumption) (by assumption) (by assumption) (by simp at hb; omega)
    rw [h] at hr
    subst hr
    exact ret_rfs (T := 257) (by simp only [go_sem, Nat.reduceLT, Nat.reduceLeDiff, Nat.reduceEqDiff, Nat.reduceAdd, Nat.reduceMul, Nat.reduceSub, reduceCtorEq]; simp) (by simp only [go_sem, Nat.reduceLT, Nat.reduceLeDiff, Nat.reduceEqDiff, Nat.reduceAdd, Nat.reduceMul, Nat.reduceSub, reduceCtorEq]) rfl (by simp only [go_sem, Nat.reduceLT, Nat.reduceLeDiff, Nat.reduceEqDiff, Nat.reduceAdd, Nat.reduceMul, Nat.reduceSub, reduceCtorEq, rowsE_take]; rw [← rowsE_app]) rfl (by simp [rowsE_len]) (rowsE_pur _)
theorem implAddRead_ok (es : List EntS) (o ver x : Int) (r : List EntS × Int) (hr : addReadL es ⟨o, ver, x, x, false⟩ = r) (hl : es.length ≤ 1048576) : SatP Try.prog 9 [.fr 70 (rowsE es), .int .i64 o, .int .i64 ver, .int .i64 x]
    (.tup [.rf 0 r.1.length, .int .i64 r.2]) [(70, rowsE r.1)] := by
  refine satP_of_body hT Try.func9 (by kernel_rfl) rfl (rs := [.tmp 8, .tmp 9]) rfl (n := 44) rfl (by simp) rfl (by simpa using rowsE_pur _) fun E hE => ?_
  unfold St.init
  have F := And.intro @rowsE_len @rowsE_scal
  repeat' first
    | refine wSq fun _ hK => ?_
    | refine wRg ?_
    | refine wDr ?_
    | refine VWP_block ?_
    | refine VWP_skip ?_
    | refine VWP_exit ?_
    | refine VWP_ret ?_
    | (refine hK _ ?_; clear hK)
    | (clear hK; refine hK _ ?_; clear hK)
    | (clear hK; clear hK; refine hK _ ?_; clear hK)
    | (clear hK; clear hK; clear hK; refine hK _ ?_; clear hK)
    | (simp only [wHb, reduceCtorEq] at hb <;> try (exfalso; omega))
    | refine wCd (fun hb => ?_) fun hb => ?_
    | refine wCa (c := by first | exact implOpenOk_ok es hl | exact isEntry_ok ⟨o, ver, x, x, false⟩ | exact entryAt_ok es o hl | exact ownEntries_ok es (by omega)) (k := ?_)
    | simp only [go_sem, Nat.reduceLT, Nat.reduceLeDiff, Nat.reduceEqDiff, Nat.reduceAdd, Nat.reduceMul, Nat.reduceSub, reduceCtorEq, F]
    | simp (disch := omega) only [decide_eq_true_eq, if_pos, if_neg, wrap_id, le_maxLen, and_true, true_and, if_true, ite_true]
    | refine wGd (fun hb => ?_) fun hb => ?_
  · have h := add_bad1 (e := ⟨o, ver, x, x, false⟩) (es := es) (by assumption)
    rw [h] at hr
    subst hr
    exact ret_rfs (T := 1) (by simp only [go_sem, Nat.reduceLT, Nat.reduceLeDiff, Nat.reduceEqDiff, Nat.reduceAdd, Nat.reduceMul, Nat.reduceSub, reduceCtorEq]) (by simp only [go_sem, Nat.reduceLT, Nat.reduceLeDiff, Nat.reduceEqDiff, Nat.reduceAdd, Nat.reduceMul, Nat.reduceSub, reduceCtorEq]) rfl (by simp only [go_sem, Nat.reduceLT, Nat.reduceLeDiff, Nat.reduceEqDiff, Nat.reduceAdd, Nat.reduceMul, Nat.reduceSub, reduceCtorEq]; try rfl) rfl (rowsE_len es).symm (rowsE_pur es)
  · have h := add_bad2 (e := ⟨o, ver, x, x, false⟩) (es := es) (by assumption)
    rw [h] at hr
    subst hr
    exact ret_rfs (T := 1) (by simp only [go_sem, Nat.reduceLT, Nat.reduceLeDiff, Nat.reduceEqDiff, Nat.reduceAdd, Nat.reduceMul, Nat.reduceSub, reduceCtorEq]) (by simp only [go_sem, Nat.reduceLT, Nat.reduceLeDiff, Nat.reduceEqDiff, Nat.reduceAdd, Nat.reduceMul, Nat.reduceSub, reduceCtorEq]) rfl (by simp only [go_sem, Nat.reduceLT, Nat.reduceLeDiff, Nat.reduceEqDiff, Nat.reduceAdd, Nat.reduceMul, Nat.reduceSub, reduceCtorEq]; try rfl) rfl (rowsE_len es).symm (rowsE_pur es)
  · have h := add_bad3 (e := ⟨o, ver, x, x, false⟩) (es := es) (by rw [openedI, if_pos (by assumption)]; assumption)
    rw [h] at hr
    subst hr
    exact ret_rfs (T := 1) (by simp only [go_sem, Nat.reduceLT, Nat.reduceLeDiff, Nat.reduceEqDiff, Nat.reduceAdd, Nat.reduceMul, Nat.reduceSub, reduceCtorEq]) (by simp only [go_sem, Nat.reduceLT, Nat.reduceLeDiff, Nat.reduceEqDiff, Nat.reduceAdd, Nat.reduceMul, Nat.reduceSub, reduceCtorEq]) rfl (by simp only [go_sem, Nat.reduceLT, Nat.reduceLeDiff, Nat.reduceEqDiff, Nat.reduceAdd, Nat.reduceMul, Nat.reduceSub, reduceCtorEq]; try rfl) rfl (rowsE_len es).symm (rowsE_pur es)
  · have h := add_many (e := ⟨o, ver, x, x, false⟩) (es := es) (by assumption) (by assumption) (by rw [openedI, if_pos (by assumption)]; assumption) (by simp at hb; omega)
    rw [h] at hr
    subst hr
    exact ret_rfs (T := 1) (by simp only [go_sem, Nat.reduceLT, Nat.reduceLeDiff, Nat.reduceEqDiff, Nat.reduceAdd, Nat.reduceMul, Nat.reduceSub, reduceCtorEq]) (by simp only [go_sem, Nat.reduceLT, Nat.reduceLeDiff, Nat.reduceEqDiff, Nat.reduceAdd, Nat.reduceMul, Nat.reduceSub, reduceCtorEq]) rfl (by simp only [go_sem, Nat.reduceLT, Nat.reduceLeDiff, Nat.reduceEqDiff, Nat.reduceAdd, Nat.reduceMul, Nat.reduceSub, reduceCtorEq]; try rfl) rfl (rowsE_len es).symm (rowsE_pur es)
  · have h := add_done (e := ⟨o, ver, x, x, false⟩) (es := es) (by assumption) (by assumption) (by rw [openedI, if_pos (by assumption)]; assumption) (by simp at hb; omega)
    rw [h] at hr
    subst hr
    exact ret_rfs (T := 257) (by simp only [go_sem, Nat.reduceLT, Nat.reduceLeDiff, Nat.reduceEqDiff, Nat.reduceAdd, Nat.reduceMul, Nat.reduceSub, reduceCtorEq]; simp) (by simp only [go_sem, Nat.reduceLT, Nat.reduceLeDiff, Nat.reduceEqDiff, Nat.reduceAdd, Nat.reduceMul, Nat.reduceSub, reduceCtorEq]) rfl (by simp only [go_sem, Nat.reduceLT, Nat.reduceLeDiff, Nat.reduceEqDiff, Nat.reduceAdd, Nat.reduceMul, Nat.reduceSub, reduceCtorEq, rowsE_take]; rw [← rowsE_app]) rfl (by simp [rowsE_len]) (rowsE_pur _)
end Go.Proofs.Ytchkbgekmoileaa
