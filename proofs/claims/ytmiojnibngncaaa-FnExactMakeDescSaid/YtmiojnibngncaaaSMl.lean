/- The law on values: both MakeDesc give the same. -/
import Derived.Test.YtmiojnibngncaaaSM
import Derived.Test.YtmiojnibngncaaaDC
namespace Go.Proofs.Ytmiojnibngncaaa
open Go Go.RowKit
set_option linter.unusedVariables false
set_option linter.unusedSimpArgs false
set_option maxRecDepth 100000
set_option maxHeartbeats 4000000
attribute [local irreducible] VWP vops vdraw contV contD CallK Guard GuardV NextL Puts Runs RetOK RetQ RetO RetQO thenQ blockQ

theorem markDesc2_ok (d : DescS) (k : Int) (h0 : 0 ≤ k) (h1 : k ≤ 1073741824) (hl : d.entries.length ≤ 1048576) :
    SatO Try.prog 23 [.agg [.int .i64 d.owner, .int .i64 d.status, .rf 0 d.entries.length], .int .i64 k] [.root 96 (rowsE d.entries)] (.int .i64 (k + 5 * d.entries.length)) [.root 96 (rowsE (marksE k d.entries.length))] := by
  have hm := markEntryS_ok d.entries k h0 (by omega) (by omega)
  refine satO_of_body hT Try.func23 (by kernel_rfl) rfl (rs := [.tmp 4]) rfl (n := 10) rfl (by simp) rfl (m := 1) rfl ⟨⟨rfl, rowsE_pur _⟩, by simp [keptL]⟩ fun E hE => ?_
  unfold St.initO
  have F := @rowsE_pur
  repeat' first
    | refine wSq fun _ hK => ?_
    | refine wRg ?_
    | refine wDr ?_
    | refine VWP_block ?_
    | refine VWP_skip ?_
    | refine VWP_exit ?_
    | refine VWP_ret ?_
    | (refine hK _ ?_; clear hK)
    | (clear hK; refine hK _ ?_; clear hK)
    | (clear hK; clear hK; refine hK _ ?_; clear hK)
    | (clear hK; clear hK; clear hK; refine hK _ ?_; clear hK)
    | (simp only [wHb, reduceCtorEq] at hb <;> try (exfalso; omega))
    | refine wCd (fun hb => ?_) fun hb => ?_
    | refine wOw [0] (c := by exact hm) (k := ?_)
    | simp only [go_sem, Nat.reduceLT, Nat.reduceLeDiff, Nat.reduceEqDiff, Nat.reduceAdd, Nat.reduceMul, Nat.reduceSub, reduceCtorEq, F]
    | simp (disch := omega) only [decide_eq_true_eq, if_pos, if_neg, wrap_id, le_maxLen, and_true, true_and, if_true, ite_true]
    | refine wGd (fun hb => ?_) fun hb => ?_
  exact retO_mk [] rfl [.root 96 (rowsE (marksE k d.entries.length))] rfl (by simp [keepsL, updH, HpE]) rfl (by simp only [go_sem, Nat.reduceLT, Nat.reduceLeDiff, Nat.reduceEqDiff, Nat.reduceAdd, Nat.reduceMul, Nat.reduceSub, reduceCtorEq, vres]; rfl) (acc := []) rfl (by simp) rfl
theorem heldDesc2_ok (d : DescS) (k : Int) (h0 : 0 ≤ k) (h1 : k ≤ 1073741824) (hl : d.entries.length ≤ 1048576) :
    SatP Try.prog 24 [.agg [.int .i64 d.owner, .int .i64 d.status, .fr 96 (rowsE (marksE k d.entries.length))], .int .i64 k] (.int .i64 (k + 5 * d.entries.length)) [] := by
  have hm := heldEntryS_ok d.entries.length k h0 (by omega) (by omega)
  have hn : ¬ k + 5 * (d.entries.length : Int) < 0 := by omega
  refine satP_of_body hT Try.func24 (by kernel_rfl) rfl (rs := [.tmp 4]) rfl (n := 12) rfl (by simp) rfl (by simp) fun E hE => ?_
  unfold St.init
  have F := hn
  repeat' first
    | refine wSq fun _ hK => ?_
    | refine wRg ?_
    | refine wDr ?_
    | refine VWP_block ?_
    | refine VWP_skip ?_
    | refine VWP_exit ?_
    | refine VWP_ret ?_
    | (refine hK _ ?_; clear hK)
    | (clear hK; refine hK _ ?_; clear hK)
    | (clear hK; clear hK; refine hK _ ?_; clear hK)
    | (clear hK; clear hK; clear hK; refine hK _ ?_; clear hK)
    | (simp only [wHb, reduceCtorEq] at hb <;> try (exfalso; omega))
    | refine wCd (fun hb => ?_) fun hb => ?_
    | refine wCa (c := by first | exact hm) (k := ?_)
    | simp only [go_sem, Nat.reduceLT, Nat.reduceLeDiff, Nat.reduceEqDiff, Nat.reduceAdd, Nat.reduceMul, Nat.reduceSub, reduceCtorEq, F]
    | simp (disch := omega) only [decide_eq_true_eq, if_pos, if_neg, wrap_id, le_maxLen, and_true, true_and, if_true, ite_true]
    | refine wGd (fun hb => ?_) fun hb => ?_
  refine wLf ?_
  rfl
theorem makeL_len (o : Int) (es : List EntS) : (makeL o es).1.entries.length ≤ 8 := by
  unfold makeL
  split
  · exact byObj_len es 8
  · simp
theorem makeLaw_ok (o : Int) (es : List EntS) (hel : es.length ≤ 9223372036854775807) : SatP Try.prog 4 [.int .i64 o, .fr 98 (rowsE es)] (.bool true) [] := by
  have cz := szEntryS_ok es 1048576 (by omega) (by omega) hel
  refine satP_of_body hT Try.func4 (by kernel_rfl) rfl (rs := [.tmp 4]) rfl (n := 101) rfl (by simp) rfl (by simp) fun E hE => ?_
  unfold St.init
  rcases Int.lt_or_le (szB es.length 1048576) 0 with hbig | hsm
  · skip
    have F := hbig
    repeat' first
      | refine wSq fun _ hK => ?_
      | refine wRg ?_
      | refine wDr ?_
      | refine VWP_block ?_
      | refine VWP_skip ?_
      | refine VWP_exit ?_
      | refine VWP_ret ?_
      | (refine hK _ ?_; clear hK)
      | (clear hK; refine hK _ ?_; clear hK)
      | (clear hK; clear hK; refine hK _ ?_; clear hK)
      | (clear hK; clear hK; clear hK; refine hK _ ?_; clear hK)
      | (simp only [wHb, reduceCtorEq] at hb <;> try (exfalso; omega))
      | refine wCd (fun hb => ?_) fun hb => ?_
      | refine wCa (c := by first | exact cz) (k := ?_)
      | simp only [go_sem, Nat.reduceLT, Nat.reduceLeDiff, Nat.reduceEqDiff, Nat.reduceAdd, Nat.reduceMul, Nat.reduceSub, reduceCtorEq, F]
      | simp (disch := omega) only [decide_eq_true_eq, if_pos, if_neg, wrap_id, le_maxLen, and_true, true_and, if_true, ite_true]
      | refine wGd (fun hb => ?_) fun hb => ?_
    refine wLf ?_
    rfl
  · have hn : ¬ szB es.length 1048576 < 0 := by omega
    have hl : es.length ≤ 1048576 := by
      unfold szB at hsm
      split at hsm <;> omega
    obtain ⟨r, hr⟩ : ∃ r, makeL o es = r := ⟨_, rfl⟩
    have hln := makeL_len o es
    rw [hr] at hln
    have c1 := specMakeDesc_ok o es r hr hl
    have c2 := implMakeDesc_ok o es r hr hl
    obtain ⟨⟨ow, st, ds⟩, rb⟩ := r
    simp only at c1 c2 hln
    have hq := eqDesc_ok ⟨ow, st, ds⟩ ⟨ow, st, ds⟩ (by simp only; omega)
    have hqe := eqEntryS_ok es es hl
    have hte := toEntryS_ok es hl
    have hm := markEntryS_ok es 1 (by omega) (by omega) (by omega)
    have hmr := markDesc2_ok ⟨ow, st, ds⟩ 1 (by omega) (by omega) (by simp only; omega)
    have hhr := heldDesc2_ok ⟨ow, st, ds⟩ 1 (by omega) (by omega) (by simp only; omega)
    have hnk : ¬ 1 + 5 * (es.length : Int) < 0 := by omega
    have hnr : ¬ 1 + 5 * (ds.length : Int) < 0 := by omega
    have t1 := rowsE_take (marksE 1 ds.length)
    rw [marksE_len] at t1
    unfold DescS.cells at *
    simp only at hq hmr hhr
    have F := And.intro hn (And.intro hnk (And.intro hnr (And.intro t1 (And.intro @marksE_len (And.intro @rowsE_len (And.intro @rowsE_pur (And.intro @rowsE_take (And.intro @bne_self_eq_false.{0} @Nat.le_refl))))))))
    repeat' first
      | refine wSq fun _ hK => ?_
      | refine wRg ?_
      | refine wDr ?_
      | refine VWP_block ?_
      | refine VWP_skip ?_
      | refine VWP_exit ?_
      | refine VWP_ret ?_
      | (refine hK _ ?_; clear hK)
      | (clear hK; refine hK _ ?_; clear hK)
      | (clear hK; clear hK; refine hK _ ?_; clear hK)
      | (clear hK; clear hK; clear hK; refine hK _ ?_; clear hK)
      | (simp only [wHb, reduceCtorEq] at hb <;> try (exfalso; omega))
      | refine wCd (fun hb => ?_) fun hb => ?_
      | refine wCa (c := by first | exact cz | exact hte | exact c1 | exact c2 | exact hq | exact hqe | exact hhr) (k := ?_)
      | refine wOw [3] (c := by exact hm) (k := ?_)
      | refine wOw [4] (c := by exact hmr) (k := ?_)
      | simp only [go_sem, Nat.reduceLT, Nat.reduceLeDiff, Nat.reduceEqDiff, Nat.reduceAdd, Nat.reduceMul, Nat.reduceSub, reduceCtorEq, F]
      | simp (disch := omega) only [decide_eq_true_eq, if_pos, if_neg, wrap_id, le_maxLen, and_true, true_and, if_true, ite_true]
      | refine wGd (fun hb => ?_) fun hb => ?_
    all_goals try (refine wLf ?_; rfl)
end Go.Proofs.Ytmiojnibngncaaa
