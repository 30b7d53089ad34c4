/- Marks on lists of descriptors. -/
import Derived.Test.YtmiojnibngncaaaSE
import Derived.Test.YtmiojnibngncaaaDJ
import Derived.Test.YtmiojnibngncaaaEc
namespace Go.Proofs.Ytmiojnibngncaaa
open Go Go.RowKit
set_option linter.unusedVariables false
set_option linter.unusedSimpArgs false
set_option maxRecDepth 100000
set_option maxHeartbeats 4000000
attribute [local irreducible] VWP vops vdraw contV contD CallK Guard GuardV NextL Puts Runs RetOK RetQ RetO RetQO thenQ blockQ

/-- How many marks lie ahead of a descriptor. -/
def cntD (ds : List DescS) (i : Nat) : Int := 2 * (i : Int) + 5 * (entsN (ds.take i) : Int)
def mkD (k : Int) (ds : List DescS) (j : Nat) (d : DescS) : DescS := ⟨k + cntD ds j, k + cntD ds j + 1, marksE (k + cntD ds j + 1 + 1) d.entries.length⟩
def marksD (k : Int) (ds : List DescS) : List DescS := ds.mapIdx fun j d => mkD k ds j d
theorem marksD_len (k : Int) (ds : List DescS) : (marksD k ds).length = ds.length := by simp [marksD]
theorem marksD_at {k : Int} {ds : List DescS} {j : Nat} {d : DescS} (h : ds[j]? = some d) : (marksD k ds)[j]? = some (mkD k ds j d) := by simp [marksD, h]
theorem cntD_succ {ds : List DescS} {i : Nat} {d : DescS} (h : ds[i]? = some d) : cntD ds (i + 1) = cntD ds i + 2 + 5 * d.entries.length := by
  unfold cntD
  rw [entsN_succ h]
  omega
theorem cntD_le (ds : List DescS) {i : Nat} (h : i ≤ ds.length) : 0 ≤ cntD ds i ∧ cntD ds i ≤ 2 * (ds.length : Int) + 5 * (entsN ds : Int) := by
  unfold cntD
  have := entsN_take ds i
  omega
theorem cntD_all (ds : List DescS) : cntD ds ds.length = 2 * (ds.length : Int) + 5 * (entsN ds : Int) := by
  unfold cntD
  rw [List.take_length]
theorem markDescS_ok (ds : List DescS) (k : Int) (h0 : 0 ≤ k) (h1 : k ≤ 1073741824) (hl : ds.length ≤ 1048576) (he : entsN ds ≤ 1048576) :
    SatO Try.prog 89 [.rf 0 ds.length, .int .i64 k] [.root 37 (rowsD 96 ds)] (.int .i64 (k + cntD ds ds.length)) [.root 37 (rowsD 96 (marksD k ds))] := by
  refine satO_of_body hT Try.func89 (by kernel_rfl) rfl (rs := [.tmp 4]) rfl (n := 34) rfl (by simp) rfl (m := 1) rfl ⟨⟨rfl, rowsD_pur _ _⟩, by simp [keptL]⟩ fun E hE => ?_
  unfold St.initO
  have F := @rowsD_len
  repeat' first
    | refine wSq fun _ hK => ?_
    | refine wRg ?_
    | refine wDr ?_
    | refine VWP_block ?_
    | refine VWP_skip ?_
    | refine VWP_exit ?_
    | refine VWP_ret ?_
    | (refine hK _ ?_; clear hK)
    | (clear hK; refine hK _ ?_; clear hK)
    | (clear hK; clear hK; refine hK _ ?_; clear hK)
    | (clear hK; clear hK; clear hK; refine hK _ ?_; clear hK)
    | (simp only [wHb, reduceCtorEq] at hb <;> try (exfalso; omega))
    | refine wCd (fun hb => ?_) fun hb => ?_
    | simp only [go_sem, Nat.reduceLT, Nat.reduceLeDiff, Nat.reduceEqDiff, Nat.reduceAdd, Nat.reduceMul, Nat.reduceSub, reduceCtorEq, F]
    | simp (disch := omega) only [decide_eq_true_eq, if_pos, if_neg, wrap_id, le_maxLen, and_true, true_and, if_true, ite_true]
    | refine wGd (fun hb => ?_) fun hb => ?_
  refine VWP_loopL (X := Nat × List (List PT)) (fun x => [(0, .rf 0 ds.length), (1, .int .i64 (k + cntD ds x.1)), (5, .int .i64 x.1)]) (fun x => [(0, .root 37 x.2)]) (fun x => ds.length - x.1)
    (fun x => x.1 ≤ ds.length ∧ x.2.length = ds.length ∧ (∀ j e, j < x.1 → ds[j]? = some e → x.2[j]? = some (rowT 96 (mkD k ds j e))) ∧ (∀ j e, x.1 ≤ j → ds[j]? = some e → x.2[j]? = some (rowT 96 e)))
    1 (0, rowsD 96 ds) ⟨by simp, by simp [rowsD_len], by simp, fun j e _ hj => by rw [rowsD_at hj]; rfl⟩ (by simp [updV, cntD, entsN]) (by simp [HpE]) (by simp) ?_
  rintro ⟨i, rows⟩ nx ⟨hi, hlen, hdone, hrest⟩ hB
  simp only at hi hlen hdone hrest
  rcases Nat.lt_or_ge i ds.length with hlt | hge
  · obtain ⟨e, hei⟩ : ∃ e, ds[i]? = some e := ⟨_, List.getElem?_eq_getElem hlt⟩
    have hr := hrest i e (Nat.le_refl _) hei
    simp only [rowT] at hr
    have hli : i < rows.length := by omega
    have hlt' : i < ds.length := hlt
    have hne : nx ≠ 0 := by omega
    have hne' : (0 : Nat) ≠ nx := by omega
    have hcl := cntD_le ds (Nat.le_of_lt hlt)
    have hcs := cntD_le ds (i := i + 1) (by omega)
    have hsu := cntD_succ hei
    have hw := wrap_id (x := (i : Int) + 1) (by omega)
    have hw1 := wrap_id (x := k + cntD ds i + 1) (by omega)
    have hw2 := wrap_id (x := k + cntD ds i + 1 + 1) (by omega)
    have hel : e.entries.length ≤ 1048576 := by have := entsN_mem (List.mem_of_getElem? hei); omega
    refine VWP_split [(0, i, 2)] (by simp only [splits, splitH, hpL, hr, go_sem, Nat.reduceLT, Nat.reduceLeDiff, Nat.reduceEqDiff, Nat.reduceAdd, Nat.reduceMul, Nat.reduceSub, reduceCtorEq, List.find?]; rfl) ?_
    have F := And.intro hlen (And.intro hli (And.intro hlt' (And.intro hne (And.intro hne' (And.intro hw1 (And.intro hw2 (And.intro @rowsD_len (And.intro @rowsE_pur (And.intro @rowsE_len (And.intro @marksE_len (And.intro @Nat.le_refl (And.intro @List.getElem?_set_self.{0} (And.intro @List.set_set.{0} (And.intro @List.length_set.{0} (And.intro @List.length_cons.{0} (And.intro @List.set_cons_succ.{0} @List.set_cons_zero.{0}))))))))))))))))
    repeat' first
      | refine wSq fun _ hK => ?_
      | refine wRg ?_
      | refine wDr ?_
      | refine VWP_block ?_
      | refine VWP_skip ?_
      | refine VWP_exit ?_
      | refine VWP_ret ?_
      | (refine hK _ ?_; clear hK)
      | (clear hK; refine hK _ ?_; clear hK)
      | (clear hK; clear hK; refine hK _ ?_; clear hK)
      | (clear hK; clear hK; clear hK; refine hK _ ?_; clear hK)
      | (simp only [wHb, reduceCtorEq] at hb <;> try (exfalso; omega))
      | refine wCd (fun hb => ?_) fun hb => ?_
      | refine wOw [nx] (c := by exact markEntryS_ok e.entries (k + cntD ds i + 1 + 1) (by omega) (by omega) (by omega)) (k := ?_)
      | simp only [go_sem, Nat.reduceLT, Nat.reduceLeDiff, Nat.reduceEqDiff, Nat.reduceAdd, Nat.reduceMul, Nat.reduceSub, reduceCtorEq, F]
      | simp (disch := omega) only [decide_eq_true_eq, if_pos, if_neg, wrap_id, le_maxLen, and_true, true_and, if_true, ite_true]
      | refine wGd (fun hb => ?_) fun hb => ?_
    refine nextM [(0, i, 2)] (by simp only [merges, mergeH, go_sem, Nat.reduceLT, Nat.reduceLeDiff, Nat.reduceEqDiff, Nat.reduceAdd, Nat.reduceMul, Nat.reduceSub, reduceCtorEq, List.getElem?_set_self hli, hne, Ne.symm hne, rowsE_len, marksE_len, Nat.le_refl, List.set_set, List.set_cons_succ, List.set_cons_zero]; rfl) (i + 1, rows.set i (rowT 96 (mkD k ds i e))) ⟨?_, ?_, ?_, ?_⟩ ?_ ?_ ?_ (by omega)
    · simp only; omega
    · simpa using hlen
    · intro j f hj hf
      rcases Nat.lt_or_ge j i with h | h
      · simp only; rw [List.getElem?_set_ne (by omega)]; exact hdone j f h hf
      · obtain rfl : j = i := by simp only at hj; omega
        rw [hei] at hf
        cases hf
        simp [hlen, hlt']
    · intro j f hj hf
      simp only at hj
      simp only
      rw [List.getElem?_set_ne (by omega)]
      exact hrest j f (by omega) hf
    · simp only; omega
    · have : k + cntD ds i + 1 + 1 + 5 * (e.entries.length : Int) = k + cntD ds (i + 1) := by omega
      simp [updV, tmL, hw, this]
    · have : (rowsE (marksE (k + cntD ds i + 1 + 1) e.entries.length)).take e.entries.length = rowsE (marksE (k + cntD ds i + 1 + 1) e.entries.length) := by
        rw [List.take_of_length_le (by rw [rowsE_len, marksE_len]; exact Nat.le_refl _)]
      simp [updH, hpL, rowT, this, mkD]
  · obtain rfl : i = ds.length := by omega
    have hrows : rows = rowsD 96 (marksD k ds) := by
      refine List.ext_getElem? fun j => ?_
      rcases Nat.lt_or_ge j ds.length with h | h
      · obtain ⟨e, he⟩ : ∃ e, ds[j]? = some e := ⟨_, List.getElem?_eq_getElem h⟩
        rw [hdone j e h he]
        simp [rowsD, marksD_at he]
      · rw [List.getElem?_eq_none (by omega), List.getElem?_eq_none (by rw [rowsD_len, marksD_len]; omega)]
    have F := And.intro @rowsD_len (And.intro @Nat.le_refl hlen)
    repeat' first
      | refine wSq fun _ hK => ?_
      | refine wRg ?_
      | refine wDr ?_
      | refine VWP_block ?_
      | refine VWP_skip ?_
      | refine VWP_exit ?_
      | refine VWP_ret ?_
      | (refine hK _ ?_; clear hK)
      | (clear hK; refine hK _ ?_; clear hK)
      | (clear hK; clear hK; refine hK _ ?_; clear hK)
      | (clear hK; clear hK; clear hK; refine hK _ ?_; clear hK)
      | (simp only [wHb, reduceCtorEq] at hb <;> try (exfalso; omega))
      | refine wCd (fun hb => ?_) fun hb => ?_
      | simp only [go_sem, Nat.reduceLT, Nat.reduceLeDiff, Nat.reduceEqDiff, Nat.reduceAdd, Nat.reduceMul, Nat.reduceSub, reduceCtorEq, F]
      | simp (disch := omega) only [decide_eq_true_eq, if_pos, if_neg, wrap_id, le_maxLen, and_true, true_and, if_true, ite_true]
      | refine wGd (fun hb => ?_) fun hb => ?_
    exact retO_one (by simp only [go_sem, Nat.reduceLT, Nat.reduceLeDiff, Nat.reduceEqDiff, Nat.reduceAdd, Nat.reduceMul, Nat.reduceSub, reduceCtorEq]) rfl (by simp only [go_sem, Nat.reduceLT, Nat.reduceLeDiff, Nat.reduceEqDiff, Nat.reduceAdd, Nat.reduceMul, Nat.reduceSub, reduceCtorEq]) rfl hrows
end Go.Proofs.Ytmiojnibngncaaa
