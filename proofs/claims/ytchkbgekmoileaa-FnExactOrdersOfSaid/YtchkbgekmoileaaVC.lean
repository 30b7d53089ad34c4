/- What both Serial give. -/
import Derived.Test.YtchkbgekmoileaaVB
namespace Go.Proofs.Ytchkbgekmoileaa
open Go Go.RowKit
set_option linter.unusedVariables false
set_option linter.unusedSimpArgs false
set_option maxRecDepth 100000
set_option maxHeartbeats 4000000
attribute [local irreducible] VWP vops vdraw contV contD CallK Guard GuardV NextL Puts Runs RetOK RetQ RetO RetQO thenQ blockQ

theorem canE_no {es : List EntS} {out : List Int} {i k : Nat} {e : EntS} {v : Int} (he : es[i]? = some e) (hk : e.object = k) (hv : out[k]? = some v) (h : v ≠ e.old) : canE es out = false :=
  List.all_eq_false.2 ⟨e, List.mem_of_getElem? he, by simp [hk, hv, h]⟩
theorem canE_yes {es : List EntS} {out : List Int} (h : ∀ (j : Nat) (e : EntS), j < es.length → es[j]? = some e → out[e.object.toNat]? = some e.old) : canE es out = true :=
  List.all_eq_true.2 fun e he => by
    obtain ⟨j, hj⟩ := List.getElem?_of_mem he
    simp [h j e (List.getElem?_eq_some_iff.1 hj).1 hj]
theorem l12Can_ok (out : List Int) (d : DescS) (hx : out.length ≤ 1048576) (hl : d.entries.length ≤ 1048576) (hf : FitsP out.length d) :
    SatP Try.prog 73 [.fr 3 (rowsN out), .agg (d.cells 70)] (.bool (canE d.entries out)) [] := by
  refine satP_of_body hT Try.func73 (by kernel_rfl) rfl (rs := [.tmp 4]) rfl (n := 29) rfl (by simp) rfl (by simp) fun E hE => ?_
  unfold St.init
  unfold DescS.cells
  have F := (Eq.refl 0)
  repeat' first
    | refine wSq fun _ hK => ?_
    | refine wRg ?_
    | refine wDr ?_
    | refine VWP_block ?_
    | refine VWP_skip ?_
    | refine VWP_exit ?_
    | refine VWP_ret ?_
    | (refine hK _ ?_; clear hK)
    | (clear hK; refine hK _ ?_; clear hK)
    | (clear hK; clear hK; refine hK _ ?_; clear hK)
    | (clear hK; clear hK; clear hK; refine hK _ ?_; clear hK)
    | (simp only [wHb, reduceCtorEq] at hb <;> try (exfalso; omega))
    | refine wCd (fun hb => ?_) fun hb => ?_
    | simp only [go_sem, Nat.reduceLT, Nat.reduceLeDiff, Nat.reduceEqDiff, Nat.reduceAdd, Nat.reduceMul, Nat.reduceSub, reduceCtorEq, F]
    | simp (disch := omega) only [decide_eq_true_eq, if_pos, if_neg, wrap_id, le_maxLen, and_true, true_and, if_true, ite_true]
    | refine wGd (fun hb => ?_) fun hb => ?_
  refine VWP_loopL (X := Nat) (fun i => [(0, .fr 3 (rowsN out)), (3, .bp 0 0), (5, .int .i64 i)]) (fun i => [(0, .box [.int .i64 d.owner, .int .i64 d.status, .fr 70 (rowsE d.entries)])]) (fun i => d.entries.length - i)
    (fun i => i ≤ d.entries.length ∧ ∀ (j : Nat) (y : EntS), j < i → d.entries[j]? = some y → out[y.object.toNat]? = some y.old) 1 0 ⟨by simp, by simp⟩ (by simp [updV]) (by simp [updH]) (by simp) ?_
  rintro i nx ⟨hi, hdone⟩ hB
  rcases Nat.lt_or_ge i d.entries.length with hlt | hge
  · obtain ⟨e, he⟩ : ∃ e, d.entries[i]? = some e := ⟨_, List.getElem?_eq_getElem hlt⟩
    have hre := rowsE_at he
    obtain ⟨k, hk, hkn⟩ := fits_obj hf he
    obtain ⟨v, hv⟩ : ∃ v, out[k]? = some v := ⟨_, List.getElem?_eq_getElem hkn⟩
    have hrv := rowsN_at hv
    rw [hk] at hre
    have hk0 : (0 : Int) ≤ (k : Nat) := by omega
    have F := And.intro @rowsE_len (And.intro @rowsN_len (And.intro hre (And.intro hrv (And.intro hk0 hkn))))
    repeat' first
      | refine wSq fun _ hK => ?_
      | refine wRg ?_
      | refine wDr ?_
      | refine VWP_block ?_
      | refine VWP_skip ?_
      | refine VWP_exit ?_
      | refine VWP_ret ?_
      | (refine hK _ ?_; clear hK)
      | (clear hK; refine hK _ ?_; clear hK)
      | (clear hK; clear hK; refine hK _ ?_; clear hK)
      | (clear hK; clear hK; clear hK; refine hK _ ?_; clear hK)
      | (simp only [wHb, reduceCtorEq] at hb <;> try (exfalso; omega))
      | refine wCd (fun hb => ?_) fun hb => ?_
      | simp only [go_sem, Nat.reduceLT, Nat.reduceLeDiff, Nat.reduceEqDiff, Nat.reduceAdd, Nat.reduceMul, Nat.reduceSub, reduceCtorEq, F]
      | simp (disch := omega) only [decide_eq_true_eq, if_pos, if_neg, wrap_id, le_maxLen, and_true, true_and, if_true, ite_true]
      | refine wGd (fun hb => ?_) fun hb => ?_
    · refine wLf ?_
      rw [canE_no he hk hv (by simpa using hb)]
    · have hw := wrap_id (x := (i : Int) + 1) (by omega)
      have hvo : v = e.old := by simpa using hb
      refine nextL (i + 1) ⟨by omega, fun j y hj hy => ?_⟩ (by omega) (by simp [updV, tmL, hw]) (by simp [updH, hpL]; try omega) (by omega)
      rcases Nat.lt_or_ge j i with h | h
      · exact hdone j y h hy
      · obtain rfl : j = i := by omega
        rw [he] at hy; cases hy
        rw [hk, Int.toNat_natCast, hv, hvo]
  · obtain rfl : i = d.entries.length := by omega
    have F := @rowsE_len
    repeat' first
      | refine wSq fun _ hK => ?_
      | refine wRg ?_
      | refine wDr ?_
      | refine VWP_block ?_
      | refine VWP_skip ?_
      | refine VWP_exit ?_
      | refine VWP_ret ?_
      | (refine hK _ ?_; clear hK)
      | (clear hK; refine hK _ ?_; clear hK)
      | (clear hK; clear hK; refine hK _ ?_; clear hK)
      | (clear hK; clear hK; clear hK; refine hK _ ?_; clear hK)
      | (simp only [wHb, reduceCtorEq] at hb <;> try (exfalso; omega))
      | refine wCd (fun hb => ?_) fun hb => ?_
      | simp only [go_sem, Nat.reduceLT, Nat.reduceLeDiff, Nat.reduceEqDiff, Nat.reduceAdd, Nat.reduceMul, Nat.reduceSub, reduceCtorEq, F]
      | simp (disch := omega) only [decide_eq_true_eq, if_pos, if_neg, wrap_id, le_maxLen, and_true, true_and, if_true, ite_true]
      | refine wGd (fun hb => ?_) fun hb => ?_
    refine wLf ?_
    rw [canE_yes hdone]
theorem doE_succ {es : List EntS} {i : Nat} {e : EntS} (h : es[i]? = some e) (out : List Int) : doE (es.take (i + 1)) out = if e.write then (doE (es.take i) out).set e.object.toNat e.new else doE (es.take i) out := by
  unfold doE
  rw [List.take_add_one, h, List.foldl_append]
  rfl
theorem l12Do_ok (out : List Int) (d : DescS) (hx : out.length ≤ 1048576) (hl : d.entries.length ≤ 1048576) (hf : FitsP out.length d) :
    SatO Try.prog 75 [.rf 0 out.length, .agg (d.cells 70)] [.root 3 (rowsN out)] (.tup []) [.root 3 (rowsN (doE d.entries out))] := by
  refine satO_of_body hT Try.func75 (by kernel_rfl) rfl (rs := []) rfl (n := 32) rfl (by simp) rfl (m := 1) rfl ⟨⟨rfl, rowsN_pur _⟩, by simp [keptL]⟩ fun E hE => ?_
  unfold St.initO
  unfold DescS.cells
  have F := (Eq.refl 0)
  repeat' first
    | refine wSq fun _ hK => ?_
    | refine wRg ?_
    | refine wDr ?_
    | refine VWP_block ?_
    | refine VWP_skip ?_
    | refine VWP_exit ?_
    | refine VWP_ret ?_
    | (refine hK _ ?_; clear hK)
    | (clear hK; refine hK _ ?_; clear hK)
    | (clear hK; clear hK; refine hK _ ?_; clear hK)
    | (clear hK; clear hK; clear hK; refine hK _ ?_; clear hK)
    | (simp only [wHb, reduceCtorEq] at hb <;> try (exfalso; omega))
    | refine wCd (fun hb => ?_) fun hb => ?_
    | simp only [go_sem, Nat.reduceLT, Nat.reduceLeDiff, Nat.reduceEqDiff, Nat.reduceAdd, Nat.reduceMul, Nat.reduceSub, reduceCtorEq, F]
    | simp (disch := omega) only [decide_eq_true_eq, if_pos, if_neg, wrap_id, le_maxLen, and_true, true_and, if_true, ite_true]
    | refine wGd (fun hb => ?_) fun hb => ?_
  refine VWP_loopL (X := Nat) (fun i => [(0, .rf 0 out.length), (3, .bp 1 0), (4, .int .i64 i)]) (fun i => [(0, .root 3 (rowsN (doE (d.entries.take i) out))), (1, .box [.int .i64 d.owner, .int .i64 d.status, .fr 70 (rowsE d.entries)])]) (fun i => d.entries.length - i)
    (fun i => i ≤ d.entries.length) 2 0 (by simp) (by simp [updV]) (by simp [updH, doE, HpE]) (by simp) ?_
  rintro i nx hi hB
  rcases Nat.lt_or_ge i d.entries.length with hlt | hge
  · obtain ⟨e, he⟩ : ∃ e, d.entries[i]? = some e := ⟨_, List.getElem?_eq_getElem hlt⟩
    have hre := rowsE_at he
    obtain ⟨k, hk, hkn⟩ := fits_obj hf he
    have hlen := doE_len (d.entries.take i) out
    obtain ⟨v, hv⟩ : ∃ v, (doE (d.entries.take i) out)[k]? = some v := ⟨_, List.getElem?_eq_getElem (by omega)⟩
    have hrv := rowsN_at hv
    have hsu := doE_succ he out
    rw [hk, Int.toNat_natCast] at hsu
    rw [hk] at hre
    have hk0 : (0 : Int) ≤ (k : Nat) := by omega
    have hw := wrap_id (x := (i : Int) + 1) (by omega)
    have hle : out.length ≤ (rowsN (doE (d.entries.take i) out)).length := by rw [rowsN_len]; omega
    cases hwr : e.write with
    | true =>
      rw [hwr] at hsu hre
      have F := And.intro @rowsE_len (And.intro @rowsN_len (And.intro hlen (And.intro hle (And.intro hre (And.intro hrv (And.intro hk0 (And.intro hkn @rowsN_set)))))))
      repeat' first
        | refine wSq fun _ hK => ?_
        | refine wRg ?_
        | refine wDr ?_
        | refine VWP_block ?_
        | refine VWP_skip ?_
        | refine VWP_exit ?_
        | refine VWP_ret ?_
        | (refine hK _ ?_; clear hK)
        | (clear hK; refine hK _ ?_; clear hK)
        | (clear hK; clear hK; refine hK _ ?_; clear hK)
        | (clear hK; clear hK; clear hK; refine hK _ ?_; clear hK)
        | (simp only [wHb, reduceCtorEq] at hb <;> try (exfalso; omega))
        | refine wCd (fun hb => ?_) fun hb => ?_
        | simp only [go_sem, Nat.reduceLT, Nat.reduceLeDiff, Nat.reduceEqDiff, Nat.reduceAdd, Nat.reduceMul, Nat.reduceSub, reduceCtorEq, F]
        | simp (disch := omega) only [decide_eq_true_eq, if_pos, if_neg, wrap_id, le_maxLen, and_true, true_and, if_true, ite_true]
        | refine wGd (fun hb => ?_) fun hb => ?_
      refine nextL (i + 1) (by omega) (by omega) (by simp [updV, tmL, hw]) ?_ (by omega)
      simp [updH, hpL, hsu, rowsN_set]
    | false =>
      rw [hwr] at hsu hre
      have F := And.intro @rowsE_len (And.intro @rowsN_len (And.intro hlen (And.intro hle (And.intro hre (And.intro hrv (And.intro hk0 (And.intro hkn @rowsN_set)))))))
      repeat' first
        | refine wSq fun _ hK => ?_
        | refine wRg ?_
        | refine wDr ?_
        | refine VWP_block ?_
        | refine VWP_skip ?_
        | refine VWP_exit ?_
        | refine VWP_ret ?_
        | (refine hK _ ?_; clear hK)
        | (clear hK; refine hK _ ?_; clear hK)
        | (clear hK; clear hK; refine hK _ ?_; clear hK)
        | (clear hK; clear hK; clear hK; refine hK _ ?_; clear hK)
        | (simp only [wHb, reduceCtorEq] at hb <;> try (exfalso; omega))
        | refine wCd (fun hb => ?_) fun hb => ?_
        | simp only [go_sem, Nat.reduceLT, Nat.reduceLeDiff, Nat.reduceEqDiff, Nat.reduceAdd, Nat.reduceMul, Nat.reduceSub, reduceCtorEq, F]
        | simp (disch := omega) only [decide_eq_true_eq, if_pos, if_neg, wrap_id, le_maxLen, and_true, true_and, if_true, ite_true]
        | refine wGd (fun hb => ?_) fun hb => ?_
      refine nextL (i + 1) (by omega) (by omega) (by simp [updV, tmL, hw]) ?_ (by omega)
      simp [updH, hpL, hsu]
  · obtain rfl : i = d.entries.length := by omega
    have F := @rowsE_len
    repeat' first
      | refine wSq fun _ hK => ?_
      | refine wRg ?_
      | refine wDr ?_
      | refine VWP_block ?_
      | refine VWP_skip ?_
      | refine VWP_exit ?_
      | refine VWP_ret ?_
      | (refine hK _ ?_; clear hK)
      | (clear hK; refine hK _ ?_; clear hK)
      | (clear hK; clear hK; refine hK _ ?_; clear hK)
      | (clear hK; clear hK; clear hK; refine hK _ ?_; clear hK)
      | (simp only [wHb, reduceCtorEq] at hb <;> try (exfalso; omega))
      | refine wCd (fun hb => ?_) fun hb => ?_
      | simp only [go_sem, Nat.reduceLT, Nat.reduceLeDiff, Nat.reduceEqDiff, Nat.reduceAdd, Nat.reduceMul, Nat.reduceSub, reduceCtorEq, F]
      | simp (disch := omega) only [decide_eq_true_eq, if_pos, if_neg, wrap_id, le_maxLen, and_true, true_and, if_true, ite_true]
      | refine wGd (fun hb => ?_) fun hb => ?_
    refine retO_mk [] rfl [.root 3 (rowsN (doE d.entries out))] rfl (by simp [keepsL, updH, hpL, HpE]) rfl (by simp only [go_sem, Nat.reduceLT, Nat.reduceLeDiff, Nat.reduceEqDiff, Nat.reduceAdd, Nat.reduceMul, Nat.reduceSub, reduceCtorEq, vres]; rfl) (acc := []) rfl (by simp) rfl
/-- What is there in the midst of a descriptor's round. -/
def mixN (es : List EntS) (out : List Int) (j : Nat) : List Int := (putE es out).take j ++ out.drop j
theorem mixN_len (es : List EntS) (out : List Int) (j : Nat) (h : j ≤ out.length) : (mixN es out j).length = out.length := by
  simp [mixN, putE_len]
  omega
theorem mixN_zero (es : List EntS) (out : List Int) : mixN es out 0 = out := by simp [mixN]
theorem mixN_all (es : List EntS) (out : List Int) : mixN es out out.length = putE es out := by
  unfold mixN
  rw [List.drop_length, List.append_nil, List.take_of_length_le (by rw [putE_len]; exact Nat.le_refl _)]
theorem mixN_at {es : List EntS} {out : List Int} {j : Nat} {x : Int} (h : out[j]? = some x) : (mixN es out j)[j]? = some x := by
  have hlt := (List.getElem?_eq_some_iff.1 h).1
  unfold mixN
  rw [List.getElem?_append_right (by simp [putE_len]; omega)]
  simp only [List.length_take, putE_len, List.getElem?_drop]
  rw [Nat.min_eq_left (by omega), Nat.sub_self, Nat.add_zero, h]
theorem mixN_set {es : List EntS} {out : List Int} {j : Nat} {x : Int} (h : out[j]? = some x) : (mixN es out j).set j (newVE es j x) = mixN es out (j + 1) := by
  have hlt := (List.getElem?_eq_some_iff.1 h).1
  have hp : (putE es out)[j]? = some (newVE es j x) := by simp [putE, h]
  refine List.ext_getElem? fun m => ?_
  have hl1 := mixN_len es out j (by omega)
  rcases Nat.lt_trichotomy m j with hm | hm | hm
  · rw [List.getElem?_set_ne (by omega)]
    unfold mixN
    rw [List.getElem?_append_left (by simp [putE_len]; omega), List.getElem?_append_left (by simp [putE_len]; omega), List.getElem?_take, List.getElem?_take, if_pos hm, if_pos (by omega)]
  · subst hm
    rw [List.getElem?_set_self (by omega)]
    unfold mixN
    rw [List.getElem?_append_left (by simp [putE_len]; omega), List.getElem?_take, if_pos (by omega), hp]
  · rw [List.getElem?_set_ne (by omega)]
    unfold mixN
    rw [List.getElem?_append_right (by simp [putE_len]; omega), List.getElem?_append_right (by simp [putE_len]; omega)]
    simp only [List.length_take, putE_len, List.getElem?_drop]
    rw [Nat.min_eq_left (by omega), Nat.min_eq_left (by omega)]
    congr 1
    omega
theorem serial_ok (xs : List Int) (ds : List DescS) (hx : xs.length ≤ 1048576) (hd0 : ds.length ≤ 1048576) (he : ∀ d ∈ ds, d.entries.length ≤ 1048576) (hf : ∀ d ∈ ds, FitsP xs.length d) (r : List Int × Bool) (hr : serialL xs ds = r) :
    SatP Try.prog 78 [.fr 3 (rowsN xs), .fr 40 (rowsD 70 ds)] (.tup [.rf 0 r.1.length, .bool r.2]) [(3, rowsN r.1)] := by
  have hrl : r.1.length = xs.length := by rw [← hr, serialL_len]
  rw [hrl]
  refine satP_of_body hT Try.func78 (by kernel_rfl) rfl (rs := [.tmp 4, .tmp 5]) rfl (n := 55) rfl (by simp) rfl (by simpa using rowsN_pur r.1) fun E hE => ?_
  unfold St.init
  have F := And.intro @rowsN_len @rowsD_len
  repeat' first
    | refine wSq fun _ hK => ?_
    | refine wRg ?_
    | refine wDr ?_
    | refine VWP_block ?_
    | refine VWP_skip ?_
    | refine VWP_exit ?_
    | refine VWP_ret ?_
    | (refine hK _ ?_; clear hK)
    | (clear hK; refine hK _ ?_; clear hK)
    | (clear hK; clear hK; refine hK _ ?_; clear hK)
    | (clear hK; clear hK; clear hK; refine hK _ ?_; clear hK)
    | (simp only [wHb, reduceCtorEq] at hb <;> try (exfalso; omega))
    | refine wCd (fun hb => ?_) fun hb => ?_
    | refine wCa (c := by first | exact own_ok xs (by omega)) (k := ?_)
    | simp only [go_sem, Nat.reduceLT, Nat.reduceLeDiff, Nat.reduceEqDiff, Nat.reduceAdd, Nat.reduceMul, Nat.reduceSub, reduceCtorEq, F]
    | simp (disch := omega) only [decide_eq_true_eq, if_pos, if_neg, wrap_id, le_maxLen, and_true, true_and, if_true, ite_true]
    | refine wGd (fun hb => ?_) fun hb => ?_
  refine VWP_loopL (X := Nat × List Int) (fun x => [(6, .rf 0 xs.length), (14, .fr 40 (rowsD 70 ds)), (15, .int .i64 ds.length), (16, .int .i64 x.1)]) (fun x => [(0, .root 3 (rowsN x.2))]) (fun x => ds.length - x.1)
    (fun x => x.1 ≤ ds.length ∧ x.2.length = xs.length ∧ serialL x.2 (ds.drop x.1) = r) 1 (0, xs) ⟨by simp, rfl, by simpa using hr⟩ (by simp [updV]) (by simp [updH]) (by simp) ?_
  rintro ⟨i, out⟩ nx ⟨hi, hlen, hser⟩ hB
  simp only at hi hlen hser
  rcases Nat.lt_or_ge i ds.length with hlt | hge
  · obtain ⟨d, hd⟩ : ∃ d, ds[i]? = some d := ⟨_, List.getElem?_eq_getElem hlt⟩
    have hre := rowsD_at (te := 70) hd
    have hm := List.mem_of_getElem? hd
    have hfd := hf d hm
    have hde := he d hm
    have hdr : ds.drop i = d :: ds.drop (i + 1) := by
      rw [List.drop_eq_getElem_cons hlt]
      congr 1
      rw [List.getElem?_eq_getElem hlt] at hd
      exact Option.some.inj hd
    rw [hdr] at hser
    unfold serialL at hser
    have n0 : nx ≠ 0 := by omega
    have m0 : (0 : Nat) ≠ nx := by omega
    have hle : xs.length ≤ (rowsN out).length := by rw [rowsN_len]; omega
    have hw := wrap_id (x := (i : Int) + 1) (by omega)
    have F := And.intro @rowsD_len (And.intro @rowsE_len (And.intro hre (And.intro n0 m0)))
    repeat' first
      | refine wSq fun _ hK => ?_
      | refine wRg ?_
      | refine wDr ?_
      | refine VWP_block ?_
      | refine VWP_skip ?_
      | refine VWP_exit ?_
      | refine VWP_ret ?_
      | (refine hK _ ?_; clear hK)
      | (clear hK; refine hK _ ?_; clear hK)
      | (clear hK; clear hK; refine hK _ ?_; clear hK)
      | (clear hK; clear hK; clear hK; refine hK _ ?_; clear hK)
      | (simp only [wHb, reduceCtorEq] at hb <;> try (exfalso; omega))
      | refine wCd (fun hb => ?_) fun hb => ?_
      | simp only [go_sem, Nat.reduceLT, Nat.reduceLeDiff, Nat.reduceEqDiff, Nat.reduceAdd, Nat.reduceMul, Nat.reduceSub, reduceCtorEq, F]
      | simp (disch := omega) only [decide_eq_true_eq, if_pos, if_neg, wrap_id, le_maxLen, and_true, true_and, if_true, ite_true]
      | refine wGd (fun hb => ?_) fun hb => ?_
    refine VWP_loopL (X := Nat) (fun k => [(6, .rf 0 xs.length), (8, .bp nx 0), (14, .fr 40 (rowsD 70 ds)), (15, .int .i64 ds.length), (16, .int .i64 i), (21, .fr 70 (rowsE d.entries)), (22, .int .i64 d.entries.length), (23, .int .i64 k)]) (fun k => [(0, .root 3 (rowsN out)), (nx, .box [.int .i64 d.owner, .int .i64 d.status, .fr 70 (rowsE d.entries)])]) (fun k => d.entries.length - k)
      (fun k => k ≤ d.entries.length ∧ ∀ (j : Nat) (y : EntS), j < k → d.entries[j]? = some y → out[y.object.toNat]? = some y.old) (nx + 1) 0 ⟨by simp, by simp⟩ (by simp [updV, tmL]) (by simp [updH, hpL, n0, m0]) (by simp) ?_
    rintro k nx2 ⟨hk, hdone⟩ hB2
    rcases Nat.lt_or_ge k d.entries.length with hklt | hkge
    · obtain ⟨e, hek⟩ : ∃ e, d.entries[k]? = some e := ⟨_, List.getElem?_eq_getElem hklt⟩
      have hree := rowsE_at hek
      obtain ⟨o, ho, hon⟩ := fits_obj hfd hek
      obtain ⟨v, hv⟩ : ∃ v, out[o]? = some v := ⟨_, List.getElem?_eq_getElem (by omega)⟩
      have hrv := rowsN_at hv
      rw [ho] at hree
      have ho0 : (0 : Int) ≤ (o : Nat) := by omega
      have p0 : nx2 ≠ 0 := by omega
      have p1 : nx2 ≠ nx := by omega
      have q0 : (0 : Nat) ≠ nx2 := by omega
      have q1 : nx ≠ nx2 := by omega
      have hw2 := wrap_id (x := (k : Int) + 1) (by omega)
      have F := And.intro @rowsE_len (And.intro @rowsN_len (And.intro hlen (And.intro hle (And.intro hree (And.intro hrv (And.intro ho0 (And.intro hon (And.intro n0 (And.intro m0 (And.intro p0 (And.intro p1 (And.intro q0 q1))))))))))))
      repeat' first
        | refine wSq fun _ hK => ?_
        | refine wRg ?_
        | refine wDr ?_
        | refine VWP_block ?_
        | refine VWP_skip ?_
        | refine VWP_exit ?_
        | refine VWP_ret ?_
        | (refine hK _ ?_; clear hK)
        | (clear hK; refine hK _ ?_; clear hK)
        | (clear hK; clear hK; refine hK _ ?_; clear hK)
        | (clear hK; clear hK; clear hK; refine hK _ ?_; clear hK)
        | (simp only [wHb, reduceCtorEq] at hb <;> try (exfalso; omega))
        | refine wCd (fun hb => ?_) fun hb => ?_
        | simp only [go_sem, Nat.reduceLT, Nat.reduceLeDiff, Nat.reduceEqDiff, Nat.reduceAdd, Nat.reduceMul, Nat.reduceSub, reduceCtorEq, F]
        | simp (disch := omega) only [decide_eq_true_eq, if_pos, if_neg, wrap_id, le_maxLen, and_true, true_and, if_true, ite_true]
        | refine wGd (fun hb => ?_) fun hb => ?_
      · have hno := canE_no hek ho hv (by simpa using hb)
        rw [hno] at hser
        simp only [Bool.false_eq_true, if_false] at hser
        subst hser
        refine ret_mk (vs := _) (acc := _) (by simp only [go_sem, Nat.reduceLT, Nat.reduceLeDiff, Nat.reduceEqDiff, Nat.reduceAdd, Nat.reduceMul, Nat.reduceSub, reduceCtorEq, vres]; rfl) (by simp only [go_sem, Nat.reduceLT, Nat.reduceLeDiff, Nat.reduceEqDiff, Nat.reduceAdd, Nat.reduceMul, Nat.reduceSub, reduceCtorEq, wrap, exV, exAs, exA, exCs, exC, rowsN_len, rowsN_take, hlen, Nat.le_refl, q0, m0]; rfl) (by simp) (by rw [← hlen, rowsN_take]; rfl) (by simp [rowsN_pur])
      · have hvo : v = e.old := by simpa using hb
        refine nextL (k + 1) ⟨by omega, fun j y hj hy => ?_⟩ (by omega) (by simp [updV, tmL, hw2]) (by simp [updH, hpL, q0, q1, n0, m0, p0, p1]) (by omega)
        rcases Nat.lt_or_ge j k with h | h
        · exact hdone j y h hy
        · obtain rfl : j = k := by omega
          rw [hek] at hy; cases hy
          rw [ho, Int.toNat_natCast, hv, hvo]
    · obtain rfl : k = d.entries.length := by omega
      rw [canE_yes hdone] at hser
      simp only [if_true] at hser
      have F := And.intro @rowsE_len (And.intro @rowsN_len (And.intro hlen (And.intro hle (And.intro n0 m0))))
      repeat' first
        | refine wSq fun _ hK => ?_
        | refine wRg ?_
        | refine wDr ?_
        | refine VWP_block ?_
        | refine VWP_skip ?_
        | refine VWP_exit ?_
        | refine VWP_ret ?_
        | (refine hK _ ?_; clear hK)
        | (clear hK; refine hK _ ?_; clear hK)
        | (clear hK; clear hK; refine hK _ ?_; clear hK)
        | (clear hK; clear hK; clear hK; refine hK _ ?_; clear hK)
        | (simp only [wHb, reduceCtorEq] at hb <;> try (exfalso; omega))
        | refine wCd (fun hb => ?_) fun hb => ?_
        | simp only [go_sem, Nat.reduceLT, Nat.reduceLeDiff, Nat.reduceEqDiff, Nat.reduceAdd, Nat.reduceMul, Nat.reduceSub, reduceCtorEq, F]
        | simp (disch := omega) only [decide_eq_true_eq, if_pos, if_neg, wrap_id, le_maxLen, and_true, true_and, if_true, ite_true]
        | refine wGd (fun hb => ?_) fun hb => ?_
      refine VWP_loopL (X := Nat) (fun k => [(6, .rf 0 xs.length), (8, .bp nx 0), (14, .fr 40 (rowsD 70 ds)), (15, .int .i64 ds.length), (16, .int .i64 i), (38, .int .i64 xs.length), (39, .int .i64 k)]) (fun k => [(0, .root 3 (rowsN (mixN d.entries out k))), (nx, .box [.int .i64 d.owner, .int .i64 d.status, .fr 70 (rowsE d.entries)])]) (fun k => xs.length - k)
        (fun k => k ≤ xs.length) (nx + 1) 0 (by simp) (by simp [updV, tmL]) (by simp [updH, hpL, n0, m0, mixN_zero]) (by omega) ?_
      rintro k nx3 hk3 hB3
      have hml := mixN_len d.entries out k (by omega)
      have hle3 : xs.length ≤ (rowsN (mixN d.entries out k)).length := by rw [rowsN_len]; omega
      rcases Nat.lt_or_ge k xs.length with hk3lt | hk3ge
      · obtain ⟨x, hx2⟩ : ∃ x, out[k]? = some x := ⟨_, List.getElem?_eq_getElem (by omega)⟩
        have hrx := rowsN_at (mixN_at (es := d.entries) hx2)
        have hms := mixN_set (es := d.entries) hx2
        have hw3 := wrap_id (x := (k : Int) + 1) (by omega)
        have F := And.intro @rowsE_len (And.intro @rowsN_len (And.intro hml (And.intro hlen (And.intro hle3 (And.intro hrx (And.intro hk3lt (And.intro n0 (And.intro m0 (And.intro @rowsN_set (And.intro hms @DescS.cells.eq_1))))))))))
        repeat' first
          | refine wSq fun _ hK => ?_
          | refine wRg ?_
          | refine wDr ?_
          | refine VWP_block ?_
          | refine VWP_skip ?_
          | refine VWP_exit ?_
          | refine VWP_ret ?_
          | (refine hK _ ?_; clear hK)
          | (clear hK; refine hK _ ?_; clear hK)
          | (clear hK; clear hK; refine hK _ ?_; clear hK)
          | (clear hK; clear hK; clear hK; refine hK _ ?_; clear hK)
          | (simp only [wHb, reduceCtorEq] at hb <;> try (exfalso; omega))
          | refine wCd (fun hb => ?_) fun hb => ?_
          | refine wCa (c := by first | exact newValue_ok d k x hde) (k := ?_)
          | simp only [go_sem, Nat.reduceLT, Nat.reduceLeDiff, Nat.reduceEqDiff, Nat.reduceAdd, Nat.reduceMul, Nat.reduceSub, reduceCtorEq, F]
          | simp (disch := omega) only [decide_eq_true_eq, if_pos, if_neg, wrap_id, le_maxLen, and_true, true_and, if_true, ite_true]
          | refine wGd (fun hb => ?_) fun hb => ?_
        refine nextL (k + 1) (by omega) (by omega) (by simp [updV, tmL, hw3]) ?_ (by omega)
        simp [updH, hpL, n0, m0, rowsN_set, hms]
      · obtain rfl : k = xs.length := by omega
        have hma : mixN d.entries out xs.length = putE d.entries out := by rw [← hlen, mixN_all]
        have F := And.intro @rowsN_len (And.intro n0 m0)
        repeat' first
          | refine wSq fun _ hK => ?_
          | refine wRg ?_
          | refine wDr ?_
          | refine VWP_block ?_
          | refine VWP_skip ?_
          | refine VWP_exit ?_
          | refine VWP_ret ?_
          | (refine hK _ ?_; clear hK)
          | (clear hK; refine hK _ ?_; clear hK)
          | (clear hK; clear hK; refine hK _ ?_; clear hK)
          | (clear hK; clear hK; clear hK; refine hK _ ?_; clear hK)
          | (simp only [wHb, reduceCtorEq] at hb <;> try (exfalso; omega))
          | refine wCd (fun hb => ?_) fun hb => ?_
          | simp only [go_sem, Nat.reduceLT, Nat.reduceLeDiff, Nat.reduceEqDiff, Nat.reduceAdd, Nat.reduceMul, Nat.reduceSub, reduceCtorEq, F]
          | simp (disch := omega) only [decide_eq_true_eq, if_pos, if_neg, wrap_id, le_maxLen, and_true, true_and, if_true, ite_true]
          | refine wGd (fun hb => ?_) fun hb => ?_
        refine nextL (i + 1, putE d.entries out) ⟨by simp only; omega, by simp only [putE_len]; exact hlen, hser⟩ (by simp only; omega) (by simp [updV, tmL, hw]) (by simp [updH, hpL, hma, n0, m0]) (by omega)
  · obtain rfl : i = ds.length := by omega
    rw [List.drop_length] at hser
    unfold serialL at hser
    subst hser
    have F := @rowsD_len
    repeat' first
      | refine wSq fun _ hK => ?_
      | refine wRg ?_
      | refine wDr ?_
      | refine VWP_block ?_
      | refine VWP_skip ?_
      | refine VWP_exit ?_
      | refine VWP_ret ?_
      | (refine hK _ ?_; clear hK)
      | (clear hK; refine hK _ ?_; clear hK)
      | (clear hK; clear hK; refine hK _ ?_; clear hK)
      | (clear hK; clear hK; clear hK; refine hK _ ?_; clear hK)
      | (simp only [wHb, reduceCtorEq] at hb <;> try (exfalso; omega))
      | refine wCd (fun hb => ?_) fun hb => ?_
      | simp only [go_sem, Nat.reduceLT, Nat.reduceLeDiff, Nat.reduceEqDiff, Nat.reduceAdd, Nat.reduceMul, Nat.reduceSub, reduceCtorEq, F]
      | simp (disch := omega) only [decide_eq_true_eq, if_pos, if_neg, wrap_id, le_maxLen, and_true, true_and, if_true, ite_true]
      | refine wGd (fun hb => ?_) fun hb => ?_
    refine ret_mk (vs := _) (acc := _) (by simp only [go_sem, Nat.reduceLT, Nat.reduceLeDiff, Nat.reduceEqDiff, Nat.reduceAdd, Nat.reduceMul, Nat.reduceSub, reduceCtorEq, vres]; rfl) (by simp only [go_sem, Nat.reduceLT, Nat.reduceLeDiff, Nat.reduceEqDiff, Nat.reduceAdd, Nat.reduceMul, Nat.reduceSub, reduceCtorEq, wrap, exV, exAs, exA, exCs, exC, rowsN_len, rowsN_take, hlen, Nat.le_refl]; rfl) (by simp) (by rw [← hlen, rowsN_take]; rfl) (by simp [rowsN_pur])
end Go.Proofs.Ytchkbgekmoileaa
