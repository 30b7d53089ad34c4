/- What both OrdersOf give for all arguments, and the law on values. -/
import Derived.Test.YtchkbgekmoileaaVG
import Derived.Test.YtchkbgekmoileaaVH
namespace Go.Proofs.Ytchkbgekmoileaa
open Go Go.RowKit
set_option linter.unusedVariables false
set_option linter.unusedSimpArgs false
set_option maxRecDepth 100000
set_option maxHeartbeats 8000000
attribute [local irreducible] VWP vops vdraw contV contD CallK Guard GuardV NextL Puts Runs RetOK RetQ RetO RetQO thenQ blockQ

noncomputable def ordR (xs : List Int) (ds : List DescS) : Int × Bool := if bP (SerP 6 xs ds) = true then (cntO ds.length xs ds, true) else (0, false)
theorem serP_6 {xs : List Int} {ds : List DescS} : SerP 6 xs ds ↔ SerP 60 xs ds ∧ ds.length ≤ 6 := by
  unfold SerP
  constructor
  · rintro ⟨a, b, c, d⟩
    exact ⟨⟨a, b, by omega, d⟩, c⟩
  · rintro ⟨⟨a, b, _, d⟩, c⟩
    exact ⟨a, b, c, d⟩
theorem serP_len {m : Nat} {xs : List Int} {ds : List DescS} (h : SerP m xs ds) : xs.length ≤ 8 := by
  have := h.1
  simp only [inB, Bool.and_eq_true, decide_eq_true_eq] at this
  omega
theorem implOrdersOf_ok (xs : List Int) (ds : List DescS) (hx : xs.length ≤ 1048576) (hd0 : ds.length ≤ 1048576) (he : ∀ d ∈ ds, d.entries.length ≤ 1048576) (r : Int × Bool) (hr : ordR xs ds = r) :
    SatP Try.prog 19 [.fr 3 (rowsN xs), .fr 40 (rowsD 70 ds)] (.tup [.int .i64 r.1, .bool r.2]) [] := by
  have hc := areSerial_ok xs ds hx hd0 he
  refine satP_of_body hT Try.func19 (by kernel_rfl) rfl (rs := [.tmp 4, .tmp 5]) rfl (n := 18) rfl (by simp) rfl (by simp) fun E hE => ?_
  unfold St.init
  by_cases hp : SerP 60 xs ds
  · rw [bP_true hp] at hc
    rcases Nat.lt_or_ge 6 ds.length with hgt | hle
    · have h6 : bP (SerP 6 xs ds) = false := bP_false fun h => by have := (serP_6.1 h).2; omega
      rw [ordR, if_neg (by rw [h6]; exact fun h => nomatch h)] at hr
      subst hr
      have hg : (6 : Int) < (ds.length : Int) := by omega
      have F := And.intro @rowsD_len hg
      repeat' first
        | refine wSq fun _ hK => ?_
        | refine wRg ?_
        | refine wDr ?_
        | refine VWP_block ?_
        | refine VWP_skip ?_
        | refine VWP_exit ?_
        | refine VWP_ret ?_
        | (refine hK _ ?_; clear hK)
        | (clear hK; refine hK _ ?_; clear hK)
        | (clear hK; clear hK; refine hK _ ?_; clear hK)
        | (clear hK; clear hK; clear hK; refine hK _ ?_; clear hK)
        | (simp only [wHb, reduceCtorEq] at hb <;> try (exfalso; omega))
        | refine wCd (fun hb => ?_) fun hb => ?_
        | refine wCa (c := by first | exact hc) (k := ?_)
        | simp only [go_sem, Nat.reduceLT, Nat.reduceLeDiff, Nat.reduceEqDiff, Nat.reduceAdd, Nat.reduceMul, Nat.reduceSub, reduceCtorEq, F]
        | simp (disch := omega) only [decide_eq_true_eq, if_pos, if_neg, wrap_id, le_maxLen, and_true, true_and, if_true, ite_true]
        | refine wGd (fun hb => ?_) fun hb => ?_
      refine ret_mk (vs := _) (acc := []) (by simp only [go_sem, Nat.reduceLT, Nat.reduceLeDiff, Nat.reduceEqDiff, Nat.reduceAdd, Nat.reduceMul, Nat.reduceSub, reduceCtorEq, vres]; rfl) (by simp only [go_sem, Nat.reduceLT, Nat.reduceLeDiff, Nat.reduceEqDiff, Nat.reduceAdd, Nat.reduceMul, Nat.reduceSub, reduceCtorEq, wrap, exV, exAs, exA, exCs, exC]; try rfl) (by simp) (by first | rfl | simp) (by simp)
    · have h6 : bP (SerP 6 xs ds) = true := bP_true (serP_6.2 ⟨hp, hle⟩)
      rw [ordR, if_pos h6] at hr
      have hcnt := countOrders_ok ds.length xs ds rfl hle (serP_len hp) hp.2.2.2
      obtain ⟨z, hz⟩ : ∃ z, cntO ds.length xs ds = z := ⟨_, rfl⟩
      rw [hz] at hcnt hr
      subst hr
      have hg : ¬ (6 : Int) < (ds.length : Int) := by omega
      have F := And.intro @rowsD_len hg
      repeat' first
        | refine wSq fun _ hK => ?_
        | refine wRg ?_
        | refine wDr ?_
        | refine VWP_block ?_
        | refine VWP_skip ?_
        | refine VWP_exit ?_
        | refine VWP_ret ?_
        | (refine hK _ ?_; clear hK)
        | (clear hK; refine hK _ ?_; clear hK)
        | (clear hK; clear hK; refine hK _ ?_; clear hK)
        | (clear hK; clear hK; clear hK; refine hK _ ?_; clear hK)
        | (simp only [wHb, reduceCtorEq] at hb <;> try (exfalso; omega))
        | refine wCd (fun hb => ?_) fun hb => ?_
        | refine wCa (c := by first | exact hc | exact hcnt) (k := ?_)
        | simp only [go_sem, Nat.reduceLT, Nat.reduceLeDiff, Nat.reduceEqDiff, Nat.reduceAdd, Nat.reduceMul, Nat.reduceSub, reduceCtorEq, F]
        | simp (disch := omega) only [decide_eq_true_eq, if_pos, if_neg, wrap_id, le_maxLen, and_true, true_and, if_true, ite_true]
        | refine wGd (fun hb => ?_) fun hb => ?_
      refine ret_mk (vs := _) (acc := []) (by simp only [go_sem, Nat.reduceLT, Nat.reduceLeDiff, Nat.reduceEqDiff, Nat.reduceAdd, Nat.reduceMul, Nat.reduceSub, reduceCtorEq, vres]; rfl) (by simp only [go_sem, Nat.reduceLT, Nat.reduceLeDiff, Nat.reduceEqDiff, Nat.reduceAdd, Nat.reduceMul, Nat.reduceSub, reduceCtorEq, wrap, exV, exAs, exA, exCs, exC]; try rfl) (by simp) (by first | rfl | simp) (by simp)
  · rw [bP_false hp] at hc
    have h6 : bP (SerP 6 xs ds) = false := bP_false fun h => hp (serP_6.1 h).1
    rw [ordR, if_neg (by rw [h6]; exact fun h => nomatch h)] at hr
    subst hr
    have F := @rowsD_len
    repeat' first
      | refine wSq fun _ hK => ?_
      | refine wRg ?_
      | refine wDr ?_
      | refine VWP_block ?_
      | refine VWP_skip ?_
      | refine VWP_exit ?_
      | refine VWP_ret ?_
      | (refine hK _ ?_; clear hK)
      | (clear hK; refine hK _ ?_; clear hK)
      | (clear hK; clear hK; refine hK _ ?_; clear hK)
      | (clear hK; clear hK; clear hK; refine hK _ ?_; clear hK)
      | (simp only [wHb, reduceCtorEq] at hb <;> try (exfalso; omega))
      | refine wCd (fun hb => ?_) fun hb => ?_
      | refine wCa (c := by first | exact hc) (k := ?_)
      | simp only [go_sem, Nat.reduceLT, Nat.reduceLeDiff, Nat.reduceEqDiff, Nat.reduceAdd, Nat.reduceMul, Nat.reduceSub, reduceCtorEq, F]
      | simp (disch := omega) only [decide_eq_true_eq, if_pos, if_neg, wrap_id, le_maxLen, and_true, true_and, if_true, ite_true]
      | refine wGd (fun hb => ?_) fun hb => ?_
    refine ret_mk (vs := _) (acc := []) (by simp only [go_sem, Nat.reduceLT, Nat.reduceLeDiff, Nat.reduceEqDiff, Nat.reduceAdd, Nat.reduceMul, Nat.reduceSub, reduceCtorEq, vres]; rfl) (by simp only [go_sem, Nat.reduceLT, Nat.reduceLeDiff, Nat.reduceEqDiff, Nat.reduceAdd, Nat.reduceMul, Nat.reduceSub, reduceCtorEq, wrap, exV, exAs, exA, exCs, exC]; try rfl) (by simp) (by first | rfl | simp) (by simp)
theorem repB_rows (n : Nat) : List.replicate n [PT.bool false] = rowsB (List.replicate n false) := by simp [rowsB, encB]
theorem specOrdersOf_ok (xs : List Int) (ds : List DescS) (hx : xs.length ≤ 1048576) (hd0 : ds.length ≤ 1048576) (he : ∀ d ∈ ds, d.entries.length ≤ 1048576) (r : Int × Bool) (hr : ordR xs ds = r) :
    SatP Try.prog 16 [.fr 3 (rowsN xs), .fr 40 (rowsD 70 ds)] (.tup [.int .i64 r.1, .bool r.2]) [] := by
  have hc := l12Args_ok xs ds 6 hx hd0 he
  rw [show (((6 : Nat) : Nat) : Int) = 6 from rfl] at hc
  refine satP_of_body hT Try.func16 (by kernel_rfl) rfl (rs := [.tmp 4, .tmp 5]) rfl (n := 18) rfl (by simp) rfl (by simp) fun E hE => ?_
  unfold St.init
  cases hp : bP (SerP 6 xs ds) with
  | true =>
    rw [hp] at hc
    have hP := bP_iff.1 hp
    rw [ordR, if_pos hp] at hr
    have hle := hP.2.2.1
    have hcnt := l12Count_ok ds.length xs ds (List.replicate ds.length false) (by simp) hle hle (serP_len hP) hP.2.2.2
    rw [cnt_eq, unD_zip] at hcnt
    obtain ⟨z, hz⟩ : ∃ z, cntO ds.length xs ds = z := ⟨_, rfl⟩
    rw [hz] at hcnt hr
    subst hr
    have hrep := repB_rows ds.length
    have hpu := rowsB_pur (List.replicate ds.length false)
    have hlen : (rowsB (List.replicate ds.length false)).length = ds.length := by simp [rowsB_len]
    have htk : (rowsB (List.replicate ds.length false)).take ds.length = rowsB (List.replicate ds.length false) := by rw [List.take_of_length_le (by omega)]
    have hn0 : (0 : Int) ≤ (ds.length : Int) := by omega
    have hn1 : (1 : Int) * (ds.length : Int) ≤ 281474976710656 := by omega
    have hn2 : (ds.length : Int) ≤ 9223372036854775807 := by omega
    have hn3 : (ds.length : Int) ≤ 281474976710656 := by omega
    have F := And.intro @rowsD_len (And.intro hrep (And.intro hpu (And.intro hlen (And.intro htk (And.intro hn0 (And.intro hn1 (And.intro hn2 hn3)))))))
    repeat' first
      | refine wSq fun _ hK => ?_
      | refine wRg ?_
      | refine wDr ?_
      | refine VWP_block ?_
      | refine VWP_skip ?_
      | refine VWP_exit ?_
      | refine VWP_ret ?_
      | (refine hK _ ?_; clear hK)
      | (clear hK; refine hK _ ?_; clear hK)
      | (clear hK; clear hK; refine hK _ ?_; clear hK)
      | (clear hK; clear hK; clear hK; refine hK _ ?_; clear hK)
      | (simp only [wHb, reduceCtorEq] at hb <;> try (exfalso; omega))
      | refine wCd (fun hb => ?_) fun hb => ?_
      | refine wCa (c := by first | exact hc) (k := ?_)
      | refine wOw [0] (c := by exact hcnt) (k := ?_)
      | simp only [go_sem, Nat.reduceLT, Nat.reduceLeDiff, Nat.reduceEqDiff, Nat.reduceAdd, Nat.reduceMul, Nat.reduceSub, reduceCtorEq, F]
      | simp (disch := omega) only [decide_eq_true_eq, if_pos, if_neg, wrap_id, le_maxLen, and_true, true_and, if_true, ite_true]
      | refine wGd (fun hb => ?_) fun hb => ?_
    refine ret_mk (vs := _) (acc := []) (by simp only [go_sem, Nat.reduceLT, Nat.reduceLeDiff, Nat.reduceEqDiff, Nat.reduceAdd, Nat.reduceMul, Nat.reduceSub, reduceCtorEq, vres]; rfl) (by simp only [go_sem, Nat.reduceLT, Nat.reduceLeDiff, Nat.reduceEqDiff, Nat.reduceAdd, Nat.reduceMul, Nat.reduceSub, reduceCtorEq, wrap, exV, exAs, exA, exCs, exC]; try rfl) (by simp) (by first | rfl | simp) (by simp)
  | false =>
    rw [hp] at hc
    rw [ordR, if_neg (by rw [hp]; exact fun h => nomatch h)] at hr
    subst hr
    have F := (Eq.refl 0)
    repeat' first
      | refine wSq fun _ hK => ?_
      | refine wRg ?_
      | refine wDr ?_
      | refine VWP_block ?_
      | refine VWP_skip ?_
      | refine VWP_exit ?_
      | refine VWP_ret ?_
      | (refine hK _ ?_; clear hK)
      | (clear hK; refine hK _ ?_; clear hK)
      | (clear hK; clear hK; refine hK _ ?_; clear hK)
      | (clear hK; clear hK; clear hK; refine hK _ ?_; clear hK)
      | (simp only [wHb, reduceCtorEq] at hb <;> try (exfalso; omega))
      | refine wCd (fun hb => ?_) fun hb => ?_
      | refine wCa (c := by first | exact hc) (k := ?_)
      | simp only [go_sem, Nat.reduceLT, Nat.reduceLeDiff, Nat.reduceEqDiff, Nat.reduceAdd, Nat.reduceMul, Nat.reduceSub, reduceCtorEq, F]
      | simp (disch := omega) only [decide_eq_true_eq, if_pos, if_neg, wrap_id, le_maxLen, and_true, true_and, if_true, ite_true]
      | refine wGd (fun hb => ?_) fun hb => ?_
    refine ret_mk (vs := _) (acc := []) (by simp only [go_sem, Nat.reduceLT, Nat.reduceLeDiff, Nat.reduceEqDiff, Nat.reduceAdd, Nat.reduceMul, Nat.reduceSub, reduceCtorEq, vres]; rfl) (by simp only [go_sem, Nat.reduceLT, Nat.reduceLeDiff, Nat.reduceEqDiff, Nat.reduceAdd, Nat.reduceMul, Nat.reduceSub, reduceCtorEq, wrap, exV, exAs, exA, exCs, exC]; try rfl) (by simp) (by first | rfl | simp) (by simp)
theorem ordersLaw_ok (xs : List Int) (ds : List DescS) (hl : xs.length ≤ 9223372036854775807) (hd : ds.length ≤ 9223372036854775807) (hde : ∀ d ∈ ds, d.entries.length ≤ 9223372036854775807) :
    SatP Try.prog 4 [.fr 3 (rowsN xs), .fr 86 (rowsD 136 ds)] (.bool true) [] := by
  refine satP_of_body hT Try.func4 (by kernel_rfl) rfl (rs := [.tmp 4]) rfl (n := 56) rfl (by simp) rfl (by simp) fun E hE => ?_
  unfold St.init
  rcases Nat.lt_or_ge 1048576 xs.length with hbig | hsm
  · have hgt : (1048576 : Int) < xs.length := by omega
    have F := And.intro @rowsN_len hgt
    repeat' first
      | refine wSq fun _ hK => ?_
      | refine wRg ?_
      | refine wDr ?_
      | refine VWP_block ?_
      | refine VWP_skip ?_
      | refine VWP_exit ?_
      | refine VWP_ret ?_
      | (refine hK _ ?_; clear hK)
      | (clear hK; refine hK _ ?_; clear hK)
      | (clear hK; clear hK; refine hK _ ?_; clear hK)
      | (clear hK; clear hK; clear hK; refine hK _ ?_; clear hK)
      | (simp only [wHb, reduceCtorEq] at hb <;> try (exfalso; omega))
      | refine wCd (fun hb => ?_) fun hb => ?_
      | simp only [go_sem, Nat.reduceLT, Nat.reduceLeDiff, Nat.reduceEqDiff, Nat.reduceAdd, Nat.reduceMul, Nat.reduceSub, reduceCtorEq, F]
      | simp (disch := omega) only [decide_eq_true_eq, if_pos, if_neg, wrap_id, le_maxLen, and_true, true_and, if_true, ite_true]
      | refine wGd (fun hb => ?_) fun hb => ?_
    refine wLf ?_
    rfl
  have hgt : ¬ (1048576 : Int) < xs.length := by omega
  rcases Int.lt_or_le (szDs ds 1048576) 0 with hb2 | hs2
  · skip
    have F := And.intro @rowsN_len (And.intro hgt hb2)
    repeat' first
      | refine wSq fun _ hK => ?_
      | refine wRg ?_
      | refine wDr ?_
      | refine VWP_block ?_
      | refine VWP_skip ?_
      | refine VWP_exit ?_
      | refine VWP_ret ?_
      | (refine hK _ ?_; clear hK)
      | (clear hK; refine hK _ ?_; clear hK)
      | (clear hK; clear hK; refine hK _ ?_; clear hK)
      | (clear hK; clear hK; clear hK; refine hK _ ?_; clear hK)
      | (simp only [wHb, reduceCtorEq] at hb <;> try (exfalso; omega))
      | refine wCd (fun hb => ?_) fun hb => ?_
      | refine wCa (c := by first | exact szDescS_ok ds _ (by omega) (by omega) hd hde) (k := ?_)
      | simp only [go_sem, Nat.reduceLT, Nat.reduceLeDiff, Nat.reduceEqDiff, Nat.reduceAdd, Nat.reduceMul, Nat.reduceSub, reduceCtorEq, F]
      | simp (disch := omega) only [decide_eq_true_eq, if_pos, if_neg, wrap_id, le_maxLen, and_true, true_and, if_true, ite_true]
      | refine wGd (fun hb => ?_) fun hb => ?_
    refine wLf ?_
    rfl
  have hn : ¬ szDs ds 1048576 < 0 := by omega
  have hsz := szDs_small (by omega) hs2
  have d0 : ds.length ≤ 1048576 := by omega
  have de : ∀ d ∈ ds, d.entries.length ≤ 1048576 := fun d hd => by have := entsN_mem hd; omega
  obtain ⟨r, hr⟩ : ∃ r, ordR xs ds = r := ⟨_, rfl⟩
  have c1 := specOrdersOf_ok xs ds hsm d0 de r hr
  have c2 := implOrdersOf_ok xs ds hsm d0 de r hr
  obtain ⟨z, ok⟩ := r
  simp only at c1 c2
  have hb1 : (z != z) = false := bne_self_eq_false z
  have hb3 : (ok != ok) = false := bne_self_eq_false ok
  have F := And.intro hgt (And.intro hn (And.intro hb1 (And.intro hb3 (And.intro @rowsN_len (And.intro @rowsN_pur (And.intro @rowsN_take (And.intro @rowsD_len (And.intro @rowsD_pur (And.intro @rowsD_take @Nat.le_refl)))))))))
  repeat' first
    | refine wSq fun _ hK => ?_
    | refine wRg ?_
    | refine wDr ?_
    | refine VWP_block ?_
    | refine VWP_skip ?_
    | refine VWP_exit ?_
    | refine VWP_ret ?_
    | (refine hK _ ?_; clear hK)
    | (clear hK; refine hK _ ?_; clear hK)
    | (clear hK; clear hK; refine hK _ ?_; clear hK)
    | (clear hK; clear hK; clear hK; refine hK _ ?_; clear hK)
    | (simp only [wHb, reduceCtorEq] at hb <;> try (exfalso; omega))
    | refine wCd (fun hb => ?_) fun hb => ?_
    | refine wCa (c := by first | exact szDescS_ok ds _ (by omega) (by omega) hd hde | exact toIntS_ok xs hsm | exact toDescS_ok ds d0 de | exact c1 | exact c2 | exact eqIntS_ok xs xs (by omega) | exact eqDescS_ok ds ds (by omega) de) (k := ?_)
    | simp only [go_sem, Nat.reduceLT, Nat.reduceLeDiff, Nat.reduceEqDiff, Nat.reduceAdd, Nat.reduceMul, Nat.reduceSub, reduceCtorEq, F]
    | simp (disch := omega) only [decide_eq_true_eq, if_pos, if_neg, wrap_id, le_maxLen, and_true, true_and, if_true, ite_true]
    | refine wGd (fun hb => ?_) fun hb => ?_
  refine wLf ?_
  rfl
end Go.Proofs.Ytchkbgekmoileaa
