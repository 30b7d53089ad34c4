/- What both Serial give for all arguments, and the law on values. -/
import Derived.Test.YtclljpdcpcolpaaVC
import Derived.Test.YtclljpdcpcolpaaYB
namespace Go.Proofs.Ytclljpdcpcolpaa
open Go Go.RowKit
set_option linter.unusedVariables false
set_option linter.unusedSimpArgs false
set_option maxRecDepth 100000
set_option maxHeartbeats 4000000
attribute [local irreducible] VWP vops vdraw contV contD CallK Guard GuardV NextL Puts Runs RetOK RetQ RetO RetQO thenQ blockQ

theorem serR_len (xs : List Int) (ds : List DescS) : (serR xs ds).1.length ≤ xs.length := by
  unfold serR
  split
  · rw [serialL_len]; exact Nat.le_refl _
  · simp
theorem implSerial_ok (xs : List Int) (ds : List DescS) (hx : xs.length ≤ 1048576) (hd0 : ds.length ≤ 1048576) (he : ∀ d ∈ ds, d.entries.length ≤ 1048576) (r : List Int × Bool) (hr : serR xs ds = r) :
    SatP Try.prog 16 [.fr 3 (rowsN xs), .fr 62 (rowsD 131 ds)] (.tup [.rf 0 r.1.length, .bool r.2]) [(3, rowsN r.1)] := by
  have hc := areSerial_ok xs ds hx hd0 he
  refine satP_of_body hT Try.func16 (by kernel_rfl) rfl (rs := [.tmp 4, .tmp 5]) rfl (n := 15) rfl (by simp) rfl (by simpa using rowsN_pur r.1) fun E => ?_
  unfold St.init
  cases hp : bP (SerP 60 xs ds) with
  | true =>
    rw [hp] at hc
    have hP := bP_iff.1 hp
    rw [serR, if_pos hp] at hr
    have hrl : r.1.length = xs.length := by rw [← hr, serialL_len]
    repeat' first
      | refine VWP_seq_k fun _ hK => ?_
      | refine VWP_region_k hT ?_
      | refine VWP_draw_k hT hM (by kernel_rfl) rfl ?_
      | refine VWP_block ?_
      | refine VWP_skip ?_
      | refine VWP_exit ?_
      | refine VWP_ret ?_
      | (refine hK _ ?_; clear hK)
      | (clear hK; refine hK _ ?_; clear hK)
      | (clear hK; clear hK; refine hK _ ?_; clear hK)
      | (clear hK; clear hK; clear hK; refine hK _ ?_; clear hK)
      | (simp only [decide_eq_true_eq, decide_eq_false_iff_not, bne_iff_ne, ne_eq, Bool.not_eq_true', Bool.not_eq_false', Bool.true_eq_false, Bool.false_eq_true, reduceCtorEq, not_true_eq_false, eq_self] at hb <;> try (exfalso; omega))
      | refine VWP_cond2 _ (by simp only [go_sem, Nat.reduceLT, Nat.reduceLeDiff, Nat.reduceEqDiff, Nat.reduceAdd, Nat.reduceMul, Nat.reduceSub, reduceCtorEq]; rfl) (fun hb => ?_) (fun hb => ?_)
      | refine callK (by simp only [go_sem, Nat.reduceLT, Nat.reduceLeDiff, Nat.reduceEqDiff, Nat.reduceAdd, Nat.reduceMul, Nat.reduceSub, reduceCtorEq, List.mem_cons, List.not_mem_nil, or_false, forall_eq_or_imp, forall_eq, frzOk, frzOkC]; try simp) (args' := _) (by simp only [go_sem, Nat.reduceLT, Nat.reduceLeDiff, Nat.reduceEqDiff, Nat.reduceAdd, Nat.reduceMul, Nat.reduceSub, reduceCtorEq, frzA, frzC]; try rfl) (by first | exact hc | exact serial_ok xs ds hx hd0 he hP.2.2.2 r hr) (by simp only [go_sem, Nat.reduceLT, Nat.reduceLeDiff, Nat.reduceEqDiff, Nat.reduceAdd, Nat.reduceMul, Nat.reduceSub, reduceCtorEq]; try simp) (by decide) ?_
      | simp only [go_sem, Nat.reduceLT, Nat.reduceLeDiff, Nat.reduceEqDiff, Nat.reduceAdd, Nat.reduceMul, Nat.reduceSub, reduceCtorEq]
      | simp (disch := omega) only [decide_eq_true_eq, if_pos, if_neg, wrap_id, le_maxLen, and_true, true_and, if_true, ite_true]
      | refine guard_split (by simp only [go_sem, Nat.reduceLT, Nat.reduceLeDiff, Nat.reduceEqDiff, Nat.reduceAdd, Nat.reduceMul, Nat.reduceSub, reduceCtorEq]) rfl (fun hb => ?_) (fun hb => ?_)
    refine ret_mk (vs := _) (acc := _) (by simp only [go_sem, Nat.reduceLT, Nat.reduceLeDiff, Nat.reduceEqDiff, Nat.reduceAdd, Nat.reduceMul, Nat.reduceSub, reduceCtorEq, vres]; rfl) (by simp only [go_sem, Nat.reduceLT, Nat.reduceLeDiff, Nat.reduceEqDiff, Nat.reduceAdd, Nat.reduceMul, Nat.reduceSub, reduceCtorEq, wrap, exV, exAs, exA, exCs, exC, rowsN_len, rowsN_take, Nat.le_refl]; rfl) (by simp) (by first | rfl | rw [rowsN_take]) (by simp [rowsN_pur])
  | false =>
    rw [hp] at hc
    rw [serR, if_neg (by rw [hp]; exact fun h => nomatch h)] at hr
    subst hr
    repeat' first
      | refine VWP_seq_k fun _ hK => ?_
      | refine VWP_region_k hT ?_
      | refine VWP_draw_k hT hM (by kernel_rfl) rfl ?_
      | refine VWP_block ?_
      | refine VWP_skip ?_
      | refine VWP_exit ?_
      | refine VWP_ret ?_
      | (refine hK _ ?_; clear hK)
      | (clear hK; refine hK _ ?_; clear hK)
      | (clear hK; clear hK; refine hK _ ?_; clear hK)
      | (clear hK; clear hK; clear hK; refine hK _ ?_; clear hK)
      | (simp only [decide_eq_true_eq, decide_eq_false_iff_not, bne_iff_ne, ne_eq, Bool.not_eq_true', Bool.not_eq_false', Bool.true_eq_false, Bool.false_eq_true, reduceCtorEq, not_true_eq_false, eq_self] at hb <;> try (exfalso; omega))
      | refine VWP_cond2 _ (by simp only [go_sem, Nat.reduceLT, Nat.reduceLeDiff, Nat.reduceEqDiff, Nat.reduceAdd, Nat.reduceMul, Nat.reduceSub, reduceCtorEq]; rfl) (fun hb => ?_) (fun hb => ?_)
      | refine callK (by simp only [go_sem, Nat.reduceLT, Nat.reduceLeDiff, Nat.reduceEqDiff, Nat.reduceAdd, Nat.reduceMul, Nat.reduceSub, reduceCtorEq, List.mem_cons, List.not_mem_nil, or_false, forall_eq_or_imp, forall_eq, frzOk, frzOkC]; try simp) (args' := _) (by simp only [go_sem, Nat.reduceLT, Nat.reduceLeDiff, Nat.reduceEqDiff, Nat.reduceAdd, Nat.reduceMul, Nat.reduceSub, reduceCtorEq, frzA, frzC]; try rfl) (by first | exact hc) (by simp only [go_sem, Nat.reduceLT, Nat.reduceLeDiff, Nat.reduceEqDiff, Nat.reduceAdd, Nat.reduceMul, Nat.reduceSub, reduceCtorEq]; try simp) (by decide) ?_
      | simp only [go_sem, Nat.reduceLT, Nat.reduceLeDiff, Nat.reduceEqDiff, Nat.reduceAdd, Nat.reduceMul, Nat.reduceSub, reduceCtorEq]
      | simp (disch := omega) only [decide_eq_true_eq, if_pos, if_neg, wrap_id, le_maxLen, and_true, true_and, if_true, ite_true]
      | refine guard_split (by simp only [go_sem, Nat.reduceLT, Nat.reduceLeDiff, Nat.reduceEqDiff, Nat.reduceAdd, Nat.reduceMul, Nat.reduceSub, reduceCtorEq]) rfl (fun hb => ?_) (fun hb => ?_)
    refine ret_mk (vs := _) (acc := _) (by simp only [go_sem, Nat.reduceLT, Nat.reduceLeDiff, Nat.reduceEqDiff, Nat.reduceAdd, Nat.reduceMul, Nat.reduceSub, reduceCtorEq, vres]; rfl) (by simp only [go_sem, Nat.reduceLT, Nat.reduceLeDiff, Nat.reduceEqDiff, Nat.reduceAdd, Nat.reduceMul, Nat.reduceSub, reduceCtorEq, wrap, exV, exAs, exA, exCs, exC]; rfl) (by simp) (by simp [rowsN]) (by simp [rowsN_pur])
theorem specSerial_ok (xs : List Int) (ds : List DescS) (hx : xs.length ≤ 1048576) (hd0 : ds.length ≤ 1048576) (he : ∀ d ∈ ds, d.entries.length ≤ 1048576) (r : List Int × Bool) (hr : serR xs ds = r) :
    SatP Try.prog 13 [.fr 3 (rowsN xs), .fr 62 (rowsD 131 ds)] (.tup [.rf 0 r.1.length, .bool r.2]) [(3, rowsN r.1)] := by
  have hc := l12Args_ok xs ds 60 hx hd0 he
  rw [show (((60 : Nat) : Nat) : Int) = 60 from rfl] at hc
  refine satP_of_body hT Try.func13 (by kernel_rfl) rfl (rs := [.tmp 4, .tmp 5]) rfl (n := 36) rfl (by simp) rfl (by simpa using rowsN_pur r.1) fun E => ?_
  unfold St.init
  cases hp : bP (SerP 60 xs ds) with
  | true =>
    rw [hp] at hc
    obtain ⟨_, _, _, hf⟩ := bP_iff.1 hp
    rw [serR, if_pos hp] at hr
    have hrl : r.1.length = xs.length := by rw [← hr, serialL_len]
    rw [hrl]
    repeat' first
      | refine VWP_seq_k fun _ hK => ?_
      | refine VWP_region_k hT ?_
      | refine VWP_draw_k hT hM (by kernel_rfl) rfl ?_
      | refine VWP_block ?_
      | refine VWP_skip ?_
      | refine VWP_exit ?_
      | refine VWP_ret ?_
      | (refine hK _ ?_; clear hK)
      | (clear hK; refine hK _ ?_; clear hK)
      | (clear hK; clear hK; refine hK _ ?_; clear hK)
      | (clear hK; clear hK; clear hK; refine hK _ ?_; clear hK)
      | (simp only [decide_eq_true_eq, decide_eq_false_iff_not, bne_iff_ne, ne_eq, Bool.not_eq_true', Bool.not_eq_false', Bool.true_eq_false, Bool.false_eq_true, reduceCtorEq, not_true_eq_false, eq_self] at hb <;> try (exfalso; omega))
      | refine VWP_cond2 _ (by simp only [go_sem, Nat.reduceLT, Nat.reduceLeDiff, Nat.reduceEqDiff, Nat.reduceAdd, Nat.reduceMul, Nat.reduceSub, reduceCtorEq, rowsN_len, rowsD_len]; rfl) (fun hb => ?_) (fun hb => ?_)
      | refine callK (by simp only [go_sem, Nat.reduceLT, Nat.reduceLeDiff, Nat.reduceEqDiff, Nat.reduceAdd, Nat.reduceMul, Nat.reduceSub, reduceCtorEq, rowsN_len, rowsD_len, List.mem_cons, List.not_mem_nil, or_false, forall_eq_or_imp, forall_eq, frzOk, frzOkC]; try simp) (args' := _) (by simp only [go_sem, Nat.reduceLT, Nat.reduceLeDiff, Nat.reduceEqDiff, Nat.reduceAdd, Nat.reduceMul, Nat.reduceSub, reduceCtorEq, rowsN_len, rowsD_len, frzA, frzC]; try rfl) (by first | exact hc | exact l1Copy_ok xs (by omega)) (by simp only [go_sem, Nat.reduceLT, Nat.reduceLeDiff, Nat.reduceEqDiff, Nat.reduceAdd, Nat.reduceMul, Nat.reduceSub, reduceCtorEq, rowsN_len, rowsD_len]; try simp) (by decide) ?_
      | simp only [go_sem, Nat.reduceLT, Nat.reduceLeDiff, Nat.reduceEqDiff, Nat.reduceAdd, Nat.reduceMul, Nat.reduceSub, reduceCtorEq, rowsN_len, rowsD_len]
      | simp (disch := omega) only [decide_eq_true_eq, if_pos, if_neg, wrap_id, le_maxLen, and_true, true_and, if_true, ite_true]
      | refine guard_split (by simp only [go_sem, Nat.reduceLT, Nat.reduceLeDiff, Nat.reduceEqDiff, Nat.reduceAdd, Nat.reduceMul, Nat.reduceSub, reduceCtorEq, rowsN_len, rowsD_len]) rfl (fun hb => ?_) (fun hb => ?_)
    refine VWP_loopL (X := Nat × List Int) (fun x => [(6, .rf 0 xs.length), (0, .fr 3 (rowsN xs)), (1, .fr 62 (rowsD 131 ds)), (7, .int .i64 x.1)]) (fun x => [(0, .root 3 (rowsN x.2))]) (fun x => ds.length - x.1)
      (fun x => x.1 ≤ ds.length ∧ x.2.length = xs.length ∧ serialL x.2 (ds.drop x.1) = r) 1 (0, xs) ⟨by simp, rfl, by simpa using hr⟩ (by simp [updV]) (by simp [updH]) (by simp) ?_
    rintro ⟨i, out⟩ nx ⟨hi, hlen, hser⟩ hB
    simp only at hi hlen hser
    rcases Nat.lt_or_ge i ds.length with hlt | hge
    · obtain ⟨d, hd⟩ : ∃ d, ds[i]? = some d := ⟨_, List.getElem?_eq_getElem hlt⟩
      have hre := rowsD_at (te := 131) hd
      have hm := List.mem_of_getElem? hd
      have hfd := hf d hm
      have hde := he d hm
      have hdr : ds.drop i = d :: ds.drop (i + 1) := by
        rw [List.drop_eq_getElem_cons hlt]
        congr 1
        rw [List.getElem?_eq_getElem hlt] at hd
        exact Option.some.inj hd
      rw [hdr] at hser
      unfold serialL at hser
      have hle : xs.length ≤ (rowsN out).length := by rw [rowsN_len]; omega
      have htk : (rowsN out).take xs.length = rowsN out := by rw [← hlen, rowsN_take]
      have hw := wrap_id (x := (i : Int) + 1) (by omega)
      have hcan := l12Can_ok out d (by omega) hde (by rw [hlen]; exact hfd)
      have hdo := l12Do_ok out d (by omega) hde (by rw [hlen]; exact hfd)
      rw [hlen] at hdo
      rw [doE_put hfd.1] at hdo
      cases hcn : canE d.entries out with
      | true =>
        rw [hcn] at hcan hser
        simp only [if_true] at hser
        repeat' first
          | refine VWP_seq_k fun _ hK => ?_
          | refine VWP_region_k hT ?_
          | refine VWP_draw_k hT hM (by kernel_rfl) rfl ?_
          | refine VWP_block ?_
          | refine VWP_skip ?_
          | refine VWP_exit ?_
          | refine VWP_ret ?_
          | (refine hK _ ?_; clear hK)
          | (clear hK; refine hK _ ?_; clear hK)
          | (clear hK; clear hK; refine hK _ ?_; clear hK)
          | (clear hK; clear hK; clear hK; refine hK _ ?_; clear hK)
          | (simp only [decide_eq_true_eq, decide_eq_false_iff_not, bne_iff_ne, ne_eq, Bool.not_eq_true', Bool.not_eq_false', Bool.true_eq_false, Bool.false_eq_true, reduceCtorEq, not_true_eq_false, eq_self] at hb <;> try (exfalso; omega))
          | refine VWP_cond2 _ (by simp only [go_sem, Nat.reduceLT, Nat.reduceLeDiff, Nat.reduceEqDiff, Nat.reduceAdd, Nat.reduceMul, Nat.reduceSub, reduceCtorEq, rowsD_len, rowsN_len, hlen, hle, htk, hre, rowsN_pur, DescS.cells, Nat.le_refl]; rfl) (fun hb => ?_) (fun hb => ?_)
          | refine callK (by simp only [go_sem, Nat.reduceLT, Nat.reduceLeDiff, Nat.reduceEqDiff, Nat.reduceAdd, Nat.reduceMul, Nat.reduceSub, reduceCtorEq, rowsD_len, rowsN_len, hlen, hle, htk, hre, rowsN_pur, DescS.cells, Nat.le_refl, List.mem_cons, List.not_mem_nil, or_false, forall_eq_or_imp, forall_eq, frzOk, frzOkC]; try simp) (args' := _) (by simp only [go_sem, Nat.reduceLT, Nat.reduceLeDiff, Nat.reduceEqDiff, Nat.reduceAdd, Nat.reduceMul, Nat.reduceSub, reduceCtorEq, rowsD_len, rowsN_len, hlen, hle, htk, hre, rowsN_pur, DescS.cells, Nat.le_refl, frzA, frzC]; try rfl) (by first | exact hcan) (by simp only [go_sem, Nat.reduceLT, Nat.reduceLeDiff, Nat.reduceEqDiff, Nat.reduceAdd, Nat.reduceMul, Nat.reduceSub, reduceCtorEq, rowsD_len, rowsN_len, hlen, hle, htk, hre, rowsN_pur, DescS.cells, Nat.le_refl]; try simp) (by decide) ?_
          | refine callO [0] (by simp) (by simp only [go_sem, Nat.reduceLT, Nat.reduceLeDiff, Nat.reduceEqDiff, Nat.reduceAdd, Nat.reduceMul, Nat.reduceSub, reduceCtorEq, rowsD_len, rowsN_len, hlen, hle, htk, hre, rowsN_pur, DescS.cells, Nat.le_refl, List.mem_cons, List.not_mem_nil, or_false, forall_eq_or_imp, forall_eq, viewOkE, viewOkC]; try simp) (by simp only [go_sem, Nat.reduceLT, Nat.reduceLeDiff, Nat.reduceEqDiff, Nat.reduceAdd, Nat.reduceMul, Nat.reduceSub, reduceCtorEq, rowsD_len, rowsN_len, hlen, hle, htk, hre, rowsN_pur, DescS.cells, Nat.le_refl, List.mem_cons, List.not_mem_nil, or_false, forall_eq_or_imp, forall_eq, viewOk, viewOkC, frzOk, frzOkC]; try simp) (args' := _) (by simp only [go_sem, Nat.reduceLT, Nat.reduceLeDiff, Nat.reduceEqDiff, Nat.reduceAdd, Nat.reduceMul, Nat.reduceSub, reduceCtorEq, rowsD_len, rowsN_len, hlen, hle, htk, hre, rowsN_pur, DescS.cells, Nat.le_refl, frzA, frzC]; try rfl) (I := _) (by simp only [go_sem, Nat.reduceLT, Nat.reduceLeDiff, Nat.reduceEqDiff, Nat.reduceAdd, Nat.reduceMul, Nat.reduceSub, reduceCtorEq, rowsD_len, rowsN_len, hlen, hle, htk, hre, rowsN_pur, DescS.cells, Nat.le_refl]; try rfl) (by exact hdo) (by decide) ?_
          | simp only [go_sem, Nat.reduceLT, Nat.reduceLeDiff, Nat.reduceEqDiff, Nat.reduceAdd, Nat.reduceMul, Nat.reduceSub, reduceCtorEq, rowsD_len, rowsN_len, hlen, hle, htk, hre, rowsN_pur, DescS.cells, Nat.le_refl]
          | simp (disch := omega) only [decide_eq_true_eq, if_pos, if_neg, wrap_id, le_maxLen, and_true, true_and, if_true, ite_true]
          | refine guard_split (by simp only [go_sem, Nat.reduceLT, Nat.reduceLeDiff, Nat.reduceEqDiff, Nat.reduceAdd, Nat.reduceMul, Nat.reduceSub, reduceCtorEq, rowsD_len, rowsN_len, hlen, hle, htk, hre, rowsN_pur, DescS.cells, Nat.le_refl]) rfl (fun hb => ?_) (fun hb => ?_)
        refine nextL (i + 1, putE d.entries out) ⟨by simp only; omega, by simp only [putE_len]; exact hlen, hser⟩ (by simp only; omega) (by simp [updV, tmL, hw]) (by simp [updH, hpL]) (by first | omega | (simp; try omega))
      | false =>
        rw [hcn] at hcan hser
        simp only [Bool.false_eq_true, if_false] at hser
        subst hser
        repeat' first
          | refine VWP_seq_k fun _ hK => ?_
          | refine VWP_region_k hT ?_
          | refine VWP_draw_k hT hM (by kernel_rfl) rfl ?_
          | refine VWP_block ?_
          | refine VWP_skip ?_
          | refine VWP_exit ?_
          | refine VWP_ret ?_
          | (refine hK _ ?_; clear hK)
          | (clear hK; refine hK _ ?_; clear hK)
          | (clear hK; clear hK; refine hK _ ?_; clear hK)
          | (clear hK; clear hK; clear hK; refine hK _ ?_; clear hK)
          | (simp only [decide_eq_true_eq, decide_eq_false_iff_not, bne_iff_ne, ne_eq, Bool.not_eq_true', Bool.not_eq_false', Bool.true_eq_false, Bool.false_eq_true, reduceCtorEq, not_true_eq_false, eq_self] at hb <;> try (exfalso; omega))
          | refine VWP_cond2 _ (by simp only [go_sem, Nat.reduceLT, Nat.reduceLeDiff, Nat.reduceEqDiff, Nat.reduceAdd, Nat.reduceMul, Nat.reduceSub, reduceCtorEq, rowsD_len, rowsN_len, hlen, hle, htk, hre, rowsN_pur, DescS.cells, Nat.le_refl]; rfl) (fun hb => ?_) (fun hb => ?_)
          | refine callK (by simp only [go_sem, Nat.reduceLT, Nat.reduceLeDiff, Nat.reduceEqDiff, Nat.reduceAdd, Nat.reduceMul, Nat.reduceSub, reduceCtorEq, rowsD_len, rowsN_len, hlen, hle, htk, hre, rowsN_pur, DescS.cells, Nat.le_refl, List.mem_cons, List.not_mem_nil, or_false, forall_eq_or_imp, forall_eq, frzOk, frzOkC]; try simp) (args' := _) (by simp only [go_sem, Nat.reduceLT, Nat.reduceLeDiff, Nat.reduceEqDiff, Nat.reduceAdd, Nat.reduceMul, Nat.reduceSub, reduceCtorEq, rowsD_len, rowsN_len, hlen, hle, htk, hre, rowsN_pur, DescS.cells, Nat.le_refl, frzA, frzC]; try rfl) (by first | exact hcan) (by simp only [go_sem, Nat.reduceLT, Nat.reduceLeDiff, Nat.reduceEqDiff, Nat.reduceAdd, Nat.reduceMul, Nat.reduceSub, reduceCtorEq, rowsD_len, rowsN_len, hlen, hle, htk, hre, rowsN_pur, DescS.cells, Nat.le_refl]; try simp) (by decide) ?_
          | simp only [go_sem, Nat.reduceLT, Nat.reduceLeDiff, Nat.reduceEqDiff, Nat.reduceAdd, Nat.reduceMul, Nat.reduceSub, reduceCtorEq, rowsD_len, rowsN_len, hlen, hle, htk, hre, rowsN_pur, DescS.cells, Nat.le_refl]
          | simp (disch := omega) only [decide_eq_true_eq, if_pos, if_neg, wrap_id, le_maxLen, and_true, true_and, if_true, ite_true]
          | refine guard_split (by simp only [go_sem, Nat.reduceLT, Nat.reduceLeDiff, Nat.reduceEqDiff, Nat.reduceAdd, Nat.reduceMul, Nat.reduceSub, reduceCtorEq, rowsD_len, rowsN_len, hlen, hle, htk, hre, rowsN_pur, DescS.cells, Nat.le_refl]) rfl (fun hb => ?_) (fun hb => ?_)
        refine ret_mk (vs := _) (acc := _) (by simp only [go_sem, Nat.reduceLT, Nat.reduceLeDiff, Nat.reduceEqDiff, Nat.reduceAdd, Nat.reduceMul, Nat.reduceSub, reduceCtorEq, vres]; rfl) (by simp only [go_sem, Nat.reduceLT, Nat.reduceLeDiff, Nat.reduceEqDiff, Nat.reduceAdd, Nat.reduceMul, Nat.reduceSub, reduceCtorEq, wrap, exV, exAs, exA, exCs, exC, rowsN_len, rowsN_take, hlen, Nat.le_refl]; rfl) (by simp) (by rw [← hlen, rowsN_take]; rfl) (by simp [rowsN_pur])
    · obtain rfl : i = ds.length := by omega
      rw [List.drop_length] at hser
      unfold serialL at hser
      subst hser
      repeat' first
        | refine VWP_seq_k fun _ hK => ?_
        | refine VWP_region_k hT ?_
        | refine VWP_draw_k hT hM (by kernel_rfl) rfl ?_
        | refine VWP_block ?_
        | refine VWP_skip ?_
        | refine VWP_exit ?_
        | refine VWP_ret ?_
        | (refine hK _ ?_; clear hK)
        | (clear hK; refine hK _ ?_; clear hK)
        | (clear hK; clear hK; refine hK _ ?_; clear hK)
        | (clear hK; clear hK; clear hK; refine hK _ ?_; clear hK)
        | (simp only [decide_eq_true_eq, decide_eq_false_iff_not, bne_iff_ne, ne_eq, Bool.not_eq_true', Bool.not_eq_false', Bool.true_eq_false, Bool.false_eq_true, reduceCtorEq, not_true_eq_false, eq_self] at hb <;> try (exfalso; omega))
        | refine VWP_cond2 _ (by simp only [go_sem, Nat.reduceLT, Nat.reduceLeDiff, Nat.reduceEqDiff, Nat.reduceAdd, Nat.reduceMul, Nat.reduceSub, reduceCtorEq, rowsD_len]; rfl) (fun hb => ?_) (fun hb => ?_)
        | refine callK (by simp only [go_sem, Nat.reduceLT, Nat.reduceLeDiff, Nat.reduceEqDiff, Nat.reduceAdd, Nat.reduceMul, Nat.reduceSub, reduceCtorEq, rowsD_len, List.mem_cons, List.not_mem_nil, or_false, forall_eq_or_imp, forall_eq, frzOk, frzOkC]; try simp) (args' := _) (by simp only [go_sem, Nat.reduceLT, Nat.reduceLeDiff, Nat.reduceEqDiff, Nat.reduceAdd, Nat.reduceMul, Nat.reduceSub, reduceCtorEq, rowsD_len, frzA, frzC]; try rfl) (by first | fail) (by simp only [go_sem, Nat.reduceLT, Nat.reduceLeDiff, Nat.reduceEqDiff, Nat.reduceAdd, Nat.reduceMul, Nat.reduceSub, reduceCtorEq, rowsD_len]; try simp) (by decide) ?_
        | simp only [go_sem, Nat.reduceLT, Nat.reduceLeDiff, Nat.reduceEqDiff, Nat.reduceAdd, Nat.reduceMul, Nat.reduceSub, reduceCtorEq, rowsD_len]
        | simp (disch := omega) only [decide_eq_true_eq, if_pos, if_neg, wrap_id, le_maxLen, and_true, true_and, if_true, ite_true]
        | refine guard_split (by simp only [go_sem, Nat.reduceLT, Nat.reduceLeDiff, Nat.reduceEqDiff, Nat.reduceAdd, Nat.reduceMul, Nat.reduceSub, reduceCtorEq, rowsD_len]) rfl (fun hb => ?_) (fun hb => ?_)
      refine ret_mk (vs := _) (acc := _) (by simp only [go_sem, Nat.reduceLT, Nat.reduceLeDiff, Nat.reduceEqDiff, Nat.reduceAdd, Nat.reduceMul, Nat.reduceSub, reduceCtorEq, vres]; rfl) (by simp only [go_sem, Nat.reduceLT, Nat.reduceLeDiff, Nat.reduceEqDiff, Nat.reduceAdd, Nat.reduceMul, Nat.reduceSub, reduceCtorEq, wrap, exV, exAs, exA, exCs, exC, rowsN_len, rowsN_take, hlen, Nat.le_refl]; rfl) (by simp) (by rw [← hlen, rowsN_take]; rfl) (by simp [rowsN_pur])
  | false =>
    rw [hp] at hc
    rw [serR, if_neg (by rw [hp]; exact fun h => nomatch h)] at hr
    subst hr
    repeat' first
      | refine VWP_seq_k fun _ hK => ?_
      | refine VWP_region_k hT ?_
      | refine VWP_draw_k hT hM (by kernel_rfl) rfl ?_
      | refine VWP_block ?_
      | refine VWP_skip ?_
      | refine VWP_exit ?_
      | refine VWP_ret ?_
      | (refine hK _ ?_; clear hK)
      | (clear hK; refine hK _ ?_; clear hK)
      | (clear hK; clear hK; refine hK _ ?_; clear hK)
      | (clear hK; clear hK; clear hK; refine hK _ ?_; clear hK)
      | (simp only [decide_eq_true_eq, decide_eq_false_iff_not, bne_iff_ne, ne_eq, Bool.not_eq_true', Bool.not_eq_false', Bool.true_eq_false, Bool.false_eq_true, reduceCtorEq, not_true_eq_false, eq_self] at hb <;> try (exfalso; omega))
      | refine VWP_cond2 _ (by simp only [go_sem, Nat.reduceLT, Nat.reduceLeDiff, Nat.reduceEqDiff, Nat.reduceAdd, Nat.reduceMul, Nat.reduceSub, reduceCtorEq]; rfl) (fun hb => ?_) (fun hb => ?_)
      | refine callK (by simp only [go_sem, Nat.reduceLT, Nat.reduceLeDiff, Nat.reduceEqDiff, Nat.reduceAdd, Nat.reduceMul, Nat.reduceSub, reduceCtorEq, List.mem_cons, List.not_mem_nil, or_false, forall_eq_or_imp, forall_eq, frzOk, frzOkC]; try simp) (args' := _) (by simp only [go_sem, Nat.reduceLT, Nat.reduceLeDiff, Nat.reduceEqDiff, Nat.reduceAdd, Nat.reduceMul, Nat.reduceSub, reduceCtorEq, frzA, frzC]; try rfl) (by first | exact hc) (by simp only [go_sem, Nat.reduceLT, Nat.reduceLeDiff, Nat.reduceEqDiff, Nat.reduceAdd, Nat.reduceMul, Nat.reduceSub, reduceCtorEq]; try simp) (by decide) ?_
      | simp only [go_sem, Nat.reduceLT, Nat.reduceLeDiff, Nat.reduceEqDiff, Nat.reduceAdd, Nat.reduceMul, Nat.reduceSub, reduceCtorEq]
      | simp (disch := omega) only [decide_eq_true_eq, if_pos, if_neg, wrap_id, le_maxLen, and_true, true_and, if_true, ite_true]
      | refine guard_split (by simp only [go_sem, Nat.reduceLT, Nat.reduceLeDiff, Nat.reduceEqDiff, Nat.reduceAdd, Nat.reduceMul, Nat.reduceSub, reduceCtorEq]) rfl (fun hb => ?_) (fun hb => ?_)
    refine ret_mk (vs := _) (acc := _) (by simp only [go_sem, Nat.reduceLT, Nat.reduceLeDiff, Nat.reduceEqDiff, Nat.reduceAdd, Nat.reduceMul, Nat.reduceSub, reduceCtorEq, vres]; rfl) (by simp only [go_sem, Nat.reduceLT, Nat.reduceLeDiff, Nat.reduceEqDiff, Nat.reduceAdd, Nat.reduceMul, Nat.reduceSub, reduceCtorEq, wrap, exV, exAs, exA, exCs, exC]; rfl) (by simp) (by simp [rowsN]) (by simp [rowsN_pur])
theorem szDs_small {ds : List DescS} {left : Int} (h0 : 0 ≤ left) (h : 0 ≤ szDs ds left) : (ds.length : Int) + entsN ds ≤ left := by
  unfold szDs at h
  split at h <;> omega
theorem serialLaw_ok (xs : List Int) (ds : List DescS) (hl : xs.length ≤ 9223372036854775807) (hd : ds.length ≤ 9223372036854775807) (hde : ∀ d ∈ ds, d.entries.length ≤ 9223372036854775807) :
    SatP Try.prog 3 [.fr 3 (rowsN xs), .fr 56 (rowsD 174 ds)] (.bool true) [] := by
  refine satP_of_body hT Try.func3 (by kernel_rfl) rfl (rs := [.tmp 4]) rfl (n := 117) rfl (by simp) rfl (by simp) fun E => ?_
  unfold St.init
  rcases Nat.lt_or_ge 1048576 xs.length with hbig | hsm
  · have hgt : (1048576 : Int) < xs.length := by omega
    repeat' first
      | refine VWP_seq_k fun _ hK => ?_
      | refine VWP_region_k hT ?_
      | refine VWP_draw_k hT hM (by kernel_rfl) rfl ?_
      | refine VWP_block ?_
      | refine VWP_skip ?_
      | refine VWP_exit ?_
      | refine VWP_ret ?_
      | (refine hK _ ?_; clear hK)
      | (clear hK; refine hK _ ?_; clear hK)
      | (clear hK; clear hK; refine hK _ ?_; clear hK)
      | (clear hK; clear hK; clear hK; refine hK _ ?_; clear hK)
      | (simp only [decide_eq_true_eq, decide_eq_false_iff_not, bne_iff_ne, ne_eq, Bool.not_eq_true', Bool.not_eq_false', Bool.true_eq_false, Bool.false_eq_true, reduceCtorEq, not_true_eq_false, eq_self] at hb <;> try (exfalso; omega))
      | refine VWP_cond2 _ (by simp only [go_sem, Nat.reduceLT, Nat.reduceLeDiff, Nat.reduceEqDiff, Nat.reduceAdd, Nat.reduceMul, Nat.reduceSub, reduceCtorEq, rowsN_len, hgt]; rfl) (fun hb => ?_) (fun hb => ?_)
      | refine callK (by simp only [go_sem, Nat.reduceLT, Nat.reduceLeDiff, Nat.reduceEqDiff, Nat.reduceAdd, Nat.reduceMul, Nat.reduceSub, reduceCtorEq, rowsN_len, hgt, List.mem_cons, List.not_mem_nil, or_false, forall_eq_or_imp, forall_eq, frzOk, frzOkC]; try simp) (args' := _) (by simp only [go_sem, Nat.reduceLT, Nat.reduceLeDiff, Nat.reduceEqDiff, Nat.reduceAdd, Nat.reduceMul, Nat.reduceSub, reduceCtorEq, rowsN_len, hgt, frzA, frzC]; try rfl) (by first | fail) (by simp only [go_sem, Nat.reduceLT, Nat.reduceLeDiff, Nat.reduceEqDiff, Nat.reduceAdd, Nat.reduceMul, Nat.reduceSub, reduceCtorEq, rowsN_len, hgt]; try simp) (by decide) ?_
      | simp only [go_sem, Nat.reduceLT, Nat.reduceLeDiff, Nat.reduceEqDiff, Nat.reduceAdd, Nat.reduceMul, Nat.reduceSub, reduceCtorEq, rowsN_len, hgt]
      | simp (disch := omega) only [decide_eq_true_eq, if_pos, if_neg, wrap_id, le_maxLen, and_true, true_and, if_true, ite_true]
      | refine guard_split (by simp only [go_sem, Nat.reduceLT, Nat.reduceLeDiff, Nat.reduceEqDiff, Nat.reduceAdd, Nat.reduceMul, Nat.reduceSub, reduceCtorEq, rowsN_len, hgt]) rfl (fun hb => ?_) (fun hb => ?_)
    refine ret_scal (by simp only [go_sem, Nat.reduceLT, Nat.reduceLeDiff, Nat.reduceEqDiff, Nat.reduceAdd, Nat.reduceMul, Nat.reduceSub, reduceCtorEq]; rfl) rfl ?_
    rfl
  have hgt : ¬ (1048576 : Int) < xs.length := by omega
  rcases Int.lt_or_le (szDs ds 1048576) 0 with hb2 | hs2
  · skip
    repeat' first
      | refine VWP_seq_k fun _ hK => ?_
      | refine VWP_region_k hT ?_
      | refine VWP_draw_k hT hM (by kernel_rfl) rfl ?_
      | refine VWP_block ?_
      | refine VWP_skip ?_
      | refine VWP_exit ?_
      | refine VWP_ret ?_
      | (refine hK _ ?_; clear hK)
      | (clear hK; refine hK _ ?_; clear hK)
      | (clear hK; clear hK; refine hK _ ?_; clear hK)
      | (clear hK; clear hK; clear hK; refine hK _ ?_; clear hK)
      | (simp only [decide_eq_true_eq, decide_eq_false_iff_not, bne_iff_ne, ne_eq, Bool.not_eq_true', Bool.not_eq_false', Bool.true_eq_false, Bool.false_eq_true, reduceCtorEq, not_true_eq_false, eq_self] at hb <;> try (exfalso; omega))
      | refine VWP_cond2 _ (by simp only [go_sem, Nat.reduceLT, Nat.reduceLeDiff, Nat.reduceEqDiff, Nat.reduceAdd, Nat.reduceMul, Nat.reduceSub, reduceCtorEq, rowsN_len, hgt, hb2]; rfl) (fun hb => ?_) (fun hb => ?_)
      | refine callK (by simp only [go_sem, Nat.reduceLT, Nat.reduceLeDiff, Nat.reduceEqDiff, Nat.reduceAdd, Nat.reduceMul, Nat.reduceSub, reduceCtorEq, rowsN_len, hgt, hb2, List.mem_cons, List.not_mem_nil, or_false, forall_eq_or_imp, forall_eq, frzOk, frzOkC]; try simp) (args' := _) (by simp only [go_sem, Nat.reduceLT, Nat.reduceLeDiff, Nat.reduceEqDiff, Nat.reduceAdd, Nat.reduceMul, Nat.reduceSub, reduceCtorEq, rowsN_len, hgt, hb2, frzA, frzC]; try rfl) (by first | exact szDescS_ok ds _ (by omega) (by omega) hd hde) (by simp only [go_sem, Nat.reduceLT, Nat.reduceLeDiff, Nat.reduceEqDiff, Nat.reduceAdd, Nat.reduceMul, Nat.reduceSub, reduceCtorEq, rowsN_len, hgt, hb2]; try simp) (by decide) ?_
      | simp only [go_sem, Nat.reduceLT, Nat.reduceLeDiff, Nat.reduceEqDiff, Nat.reduceAdd, Nat.reduceMul, Nat.reduceSub, reduceCtorEq, rowsN_len, hgt, hb2]
      | simp (disch := omega) only [decide_eq_true_eq, if_pos, if_neg, wrap_id, le_maxLen, and_true, true_and, if_true, ite_true]
      | refine guard_split (by simp only [go_sem, Nat.reduceLT, Nat.reduceLeDiff, Nat.reduceEqDiff, Nat.reduceAdd, Nat.reduceMul, Nat.reduceSub, reduceCtorEq, rowsN_len, hgt, hb2]) rfl (fun hb => ?_) (fun hb => ?_)
    refine ret_scal (by simp only [go_sem, Nat.reduceLT, Nat.reduceLeDiff, Nat.reduceEqDiff, Nat.reduceAdd, Nat.reduceMul, Nat.reduceSub, reduceCtorEq]; rfl) rfl ?_
    rfl
  have hn : ¬ szDs ds 1048576 < 0 := by omega
  have hsz := szDs_small (by omega) hs2
  have d0 : ds.length ≤ 1048576 := by omega
  have de : ∀ d ∈ ds, d.entries.length ≤ 1048576 := fun d hd => by have := entsN_mem hd; omega
  have hln := serR_len xs ds
  obtain ⟨r, hr⟩ : ∃ r, serR xs ds = r := ⟨_, rfl⟩
  rw [hr] at hln
  have hmt := rowsN_take (marksN 1 r.1.length)
  rw [marksN_len] at hmt
  have c1 := specSerial_ok xs ds hsm d0 de r hr
  have c2 := implSerial_ok xs ds hsm d0 de r hr
  have hcn : 0 ≤ cntD ds ds.length := (cntD_le ds (Nat.le_refl _)).1
  have hnk : ¬ 1 + (xs.length : Int) + cntD ds ds.length < 0 := by omega
  obtain ⟨out, ok⟩ := r
  simp only at c1 c2 hmt hln
  repeat' first
    | refine VWP_seq_k fun _ hK => ?_
    | refine VWP_region_k hT ?_
    | refine VWP_draw_k hT hM (by kernel_rfl) rfl ?_
    | refine VWP_block ?_
    | refine VWP_skip ?_
    | refine VWP_exit ?_
    | refine VWP_ret ?_
    | (refine hK _ ?_; clear hK)
    | (clear hK; refine hK _ ?_; clear hK)
    | (clear hK; clear hK; refine hK _ ?_; clear hK)
    | (clear hK; clear hK; clear hK; refine hK _ ?_; clear hK)
    | (simp only [decide_eq_true_eq, decide_eq_false_iff_not, bne_iff_ne, ne_eq, Bool.not_eq_true', Bool.not_eq_false', Bool.true_eq_false, Bool.false_eq_true, reduceCtorEq, not_true_eq_false, eq_self] at hb <;> try (exfalso; omega))
    | refine VWP_cond2 _ (by simp only [go_sem, Nat.reduceLT, Nat.reduceLeDiff, Nat.reduceEqDiff, Nat.reduceAdd, Nat.reduceMul, Nat.reduceSub, reduceCtorEq, hgt, hn, hmt, hnk, rowsN_len, rowsN_pur, rowsN_take, marksN_len, rowsD_len, rowsD_pur, rowsD_take, Nat.le_refl]; rfl) (fun hb => ?_) (fun hb => ?_)
    | refine callK (by simp only [go_sem, Nat.reduceLT, Nat.reduceLeDiff, Nat.reduceEqDiff, Nat.reduceAdd, Nat.reduceMul, Nat.reduceSub, reduceCtorEq, hgt, hn, hmt, hnk, rowsN_len, rowsN_pur, rowsN_take, marksN_len, rowsD_len, rowsD_pur, rowsD_take, Nat.le_refl, List.mem_cons, List.not_mem_nil, or_false, forall_eq_or_imp, forall_eq, frzOk, frzOkC]; try simp) (args' := _) (by simp only [go_sem, Nat.reduceLT, Nat.reduceLeDiff, Nat.reduceEqDiff, Nat.reduceAdd, Nat.reduceMul, Nat.reduceSub, reduceCtorEq, hgt, hn, hmt, hnk, rowsN_len, rowsN_pur, rowsN_take, marksN_len, rowsD_len, rowsD_pur, rowsD_take, Nat.le_refl, frzA, frzC]; try rfl) (by first | exact szDescS_ok ds _ (by omega) (by omega) hd hde | exact toIntS_ok xs hsm | exact toDescS_ok ds d0 de | exact c1 | exact c2 | exact eqIntS_ok xs xs (by omega) | exact eqIntS_ok out out (by omega) | exact eqDescS_ok ds ds (by omega) de | exact heldIntS_ok out.length 1 (by omega) (by omega) (by omega)) (by simp only [go_sem, Nat.reduceLT, Nat.reduceLeDiff, Nat.reduceEqDiff, Nat.reduceAdd, Nat.reduceMul, Nat.reduceSub, reduceCtorEq, hgt, hn, hmt, hnk, rowsN_len, rowsN_pur, rowsN_take, marksN_len, rowsD_len, rowsD_pur, rowsD_take, Nat.le_refl]; try simp) (by decide) ?_
    | refine callO [3] (by simp) (by simp only [go_sem, Nat.reduceLT, Nat.reduceLeDiff, Nat.reduceEqDiff, Nat.reduceAdd, Nat.reduceMul, Nat.reduceSub, reduceCtorEq, hgt, hn, hmt, hnk, rowsN_len, rowsN_pur, rowsN_take, marksN_len, rowsD_len, rowsD_pur, rowsD_take, Nat.le_refl, List.mem_cons, List.not_mem_nil, or_false, forall_eq_or_imp, forall_eq, viewOkE, viewOkC]; try simp) (by simp only [go_sem, Nat.reduceLT, Nat.reduceLeDiff, Nat.reduceEqDiff, Nat.reduceAdd, Nat.reduceMul, Nat.reduceSub, reduceCtorEq, hgt, hn, hmt, hnk, rowsN_len, rowsN_pur, rowsN_take, marksN_len, rowsD_len, rowsD_pur, rowsD_take, Nat.le_refl, List.mem_cons, List.not_mem_nil, or_false, forall_eq_or_imp, forall_eq, viewOk, viewOkC, frzOk, frzOkC]; try simp) (args' := _) (by simp only [go_sem, Nat.reduceLT, Nat.reduceLeDiff, Nat.reduceEqDiff, Nat.reduceAdd, Nat.reduceMul, Nat.reduceSub, reduceCtorEq, hgt, hn, hmt, hnk, rowsN_len, rowsN_pur, rowsN_take, marksN_len, rowsD_len, rowsD_pur, rowsD_take, Nat.le_refl, frzA, frzC]; try rfl) (I := _) (by simp only [go_sem, Nat.reduceLT, Nat.reduceLeDiff, Nat.reduceEqDiff, Nat.reduceAdd, Nat.reduceMul, Nat.reduceSub, reduceCtorEq, hgt, hn, hmt, hnk, rowsN_len, rowsN_pur, rowsN_take, marksN_len, rowsD_len, rowsD_pur, rowsD_take, Nat.le_refl]; try rfl) (by exact markIntS_ok xs 1 (by omega) (by omega) (by omega)) (by decide) ?_
    | refine callO [4] (by simp) (by simp only [go_sem, Nat.reduceLT, Nat.reduceLeDiff, Nat.reduceEqDiff, Nat.reduceAdd, Nat.reduceMul, Nat.reduceSub, reduceCtorEq, hgt, hn, hmt, hnk, rowsN_len, rowsN_pur, rowsN_take, marksN_len, rowsD_len, rowsD_pur, rowsD_take, Nat.le_refl, List.mem_cons, List.not_mem_nil, or_false, forall_eq_or_imp, forall_eq, viewOkE, viewOkC]; try simp) (by simp only [go_sem, Nat.reduceLT, Nat.reduceLeDiff, Nat.reduceEqDiff, Nat.reduceAdd, Nat.reduceMul, Nat.reduceSub, reduceCtorEq, hgt, hn, hmt, hnk, rowsN_len, rowsN_pur, rowsN_take, marksN_len, rowsD_len, rowsD_pur, rowsD_take, Nat.le_refl, List.mem_cons, List.not_mem_nil, or_false, forall_eq_or_imp, forall_eq, viewOk, viewOkC, frzOk, frzOkC]; try simp) (args' := _) (by simp only [go_sem, Nat.reduceLT, Nat.reduceLeDiff, Nat.reduceEqDiff, Nat.reduceAdd, Nat.reduceMul, Nat.reduceSub, reduceCtorEq, hgt, hn, hmt, hnk, rowsN_len, rowsN_pur, rowsN_take, marksN_len, rowsD_len, rowsD_pur, rowsD_take, Nat.le_refl, frzA, frzC]; try rfl) (I := _) (by simp only [go_sem, Nat.reduceLT, Nat.reduceLeDiff, Nat.reduceEqDiff, Nat.reduceAdd, Nat.reduceMul, Nat.reduceSub, reduceCtorEq, hgt, hn, hmt, hnk, rowsN_len, rowsN_pur, rowsN_take, marksN_len, rowsD_len, rowsD_pur, rowsD_take, Nat.le_refl]; try rfl) (by exact markDescS_ok ds (1 + xs.length) (by omega) (by omega) d0 (by omega)) (by decide) ?_
    | refine callO [5] (by simp) (by simp only [go_sem, Nat.reduceLT, Nat.reduceLeDiff, Nat.reduceEqDiff, Nat.reduceAdd, Nat.reduceMul, Nat.reduceSub, reduceCtorEq, hgt, hn, hmt, hnk, rowsN_len, rowsN_pur, rowsN_take, marksN_len, rowsD_len, rowsD_pur, rowsD_take, Nat.le_refl, List.mem_cons, List.not_mem_nil, or_false, forall_eq_or_imp, forall_eq, viewOkE, viewOkC]; try simp) (by simp only [go_sem, Nat.reduceLT, Nat.reduceLeDiff, Nat.reduceEqDiff, Nat.reduceAdd, Nat.reduceMul, Nat.reduceSub, reduceCtorEq, hgt, hn, hmt, hnk, rowsN_len, rowsN_pur, rowsN_take, marksN_len, rowsD_len, rowsD_pur, rowsD_take, Nat.le_refl, List.mem_cons, List.not_mem_nil, or_false, forall_eq_or_imp, forall_eq, viewOk, viewOkC, frzOk, frzOkC]; try simp) (args' := _) (by simp only [go_sem, Nat.reduceLT, Nat.reduceLeDiff, Nat.reduceEqDiff, Nat.reduceAdd, Nat.reduceMul, Nat.reduceSub, reduceCtorEq, hgt, hn, hmt, hnk, rowsN_len, rowsN_pur, rowsN_take, marksN_len, rowsD_len, rowsD_pur, rowsD_take, Nat.le_refl, frzA, frzC]; try rfl) (I := _) (by simp only [go_sem, Nat.reduceLT, Nat.reduceLeDiff, Nat.reduceEqDiff, Nat.reduceAdd, Nat.reduceMul, Nat.reduceSub, reduceCtorEq, hgt, hn, hmt, hnk, rowsN_len, rowsN_pur, rowsN_take, marksN_len, rowsD_len, rowsD_pur, rowsD_take, Nat.le_refl]; try rfl) (by exact markIntS_ok out 1 (by omega) (by omega) (by omega)) (by decide) ?_
    | simp only [go_sem, Nat.reduceLT, Nat.reduceLeDiff, Nat.reduceEqDiff, Nat.reduceAdd, Nat.reduceMul, Nat.reduceSub, reduceCtorEq, hgt, hn, hmt, hnk, rowsN_len, rowsN_pur, rowsN_take, marksN_len, rowsD_len, rowsD_pur, rowsD_take, Nat.le_refl]
    | simp (disch := omega) only [decide_eq_true_eq, if_pos, if_neg, wrap_id, le_maxLen, and_true, true_and, if_true, ite_true]
    | refine guard_split (by simp only [go_sem, Nat.reduceLT, Nat.reduceLeDiff, Nat.reduceEqDiff, Nat.reduceAdd, Nat.reduceMul, Nat.reduceSub, reduceCtorEq, hgt, hn, hmt, hnk, rowsN_len, rowsN_pur, rowsN_take, marksN_len, rowsD_len, rowsD_pur, rowsD_take, Nat.le_refl]) rfl (fun hb => ?_) (fun hb => ?_)
  refine ret_scal (by simp only [go_sem, Nat.reduceLT, Nat.reduceLeDiff, Nat.reduceEqDiff, Nat.reduceAdd, Nat.reduceMul, Nat.reduceSub, reduceCtorEq]; rfl) rfl ?_
  rfl
end Go.Proofs.Ytclljpdcpcolpaa
