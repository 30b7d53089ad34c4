/- Stores: rows of descriptors, and what the laws' functions of stores give. -/
import Derived.Test.YtchkbgekmoileaaSH
import Derived.Test.YtchkbgekmoileaaDG
namespace Go.Proofs.Ytchkbgekmoileaa
open Go Go.RowKit
set_option linter.unusedVariables false
set_option linter.unusedSimpArgs false
set_option maxRecDepth 100000
set_option maxHeartbeats 4000000
attribute [local irreducible] VWP vops vdraw contV contD CallK Guard GuardV NextL Puts Runs RetOK RetQ RetO RetQO thenQ blockQ

def rowT (te : TypeId) (d : DescS) : List PT := [.int .i64 d.owner, .int .i64 d.status, .list te (rowsE d.entries)]
def rowsD (te : TypeId) (ds : List DescS) : List (List PT) := ds.map (rowT te)
theorem rowsD_len (te : TypeId) (ds : List DescS) : (rowsD te ds).length = ds.length := by simp [rowsD]
theorem rowsD_pur (te : TypeId) (ds : List DescS) : PurRows (rowsD te ds) := by
  intro r hr c hc
  obtain ⟨d, _, rfl⟩ := List.mem_map.1 hr
  simp only [rowT, List.mem_cons, List.not_mem_nil, or_false] at hc
  rcases hc with rfl | rfl | rfl
  · constructor
  · constructor
  · exact .list _ _ (rowsE_pur d.entries)
theorem rowsD_take (te : TypeId) (ds : List DescS) : (rowsD te ds).take ds.length = rowsD te ds := by rw [List.take_of_length_le (by rw [rowsD_len]; exact Nat.le_refl _)]
theorem rowsD_at {te : TypeId} {ds : List DescS} {i : Nat} {d : DescS} (h : ds[i]? = some d) : (rowsD te ds)[i]? = some [.int .i64 d.owner, .int .i64 d.status, .list te (rowsE d.entries)] := by simp [rowsD, h, rowT]

def entsN : List DescS → Nat
  | [] => 0
  | d :: ds => d.entries.length + entsN ds
theorem entsN_app : ∀ (xs bs : List DescS), entsN (xs ++ bs) = entsN xs + entsN bs
  | [], bs => by simp [entsN]
  | a :: xs, bs => by simp only [List.cons_append, entsN, entsN_app xs bs]; omega
theorem entsN_succ {ds : List DescS} {i : Nat} {d : DescS} (h : ds[i]? = some d) : entsN (ds.take (i + 1)) = entsN (ds.take i) + d.entries.length := by
  rw [List.take_add_one, h, entsN_app]
  simp [entsN]
theorem entsN_take (ds : List DescS) (i : Nat) : entsN (ds.take i) ≤ entsN ds := by
  have := entsN_app (ds.take i) (ds.drop i)
  rw [List.take_append_drop] at this
  omega
def szDs (ds : List DescS) (left : Int) : Int := if (ds.length : Int) + entsN ds ≤ left then left - ds.length - entsN ds else -1
theorem szDescS_ok (ds : List DescS) (left : Int) (h0 : 0 ≤ left) (h1 : left ≤ 1048576) (hl : ds.length ≤ 9223372036854775807) (he : ∀ d ∈ ds, d.entries.length ≤ 9223372036854775807) :
    SatP Try.prog 15 [.fr 86 (rowsD 136 ds), .int .i64 left] (.int .i64 (szDs ds left)) [] := by
  have hw : IntKind.i64.wrap (left - ds.length) = left - ds.length := wrap_id (by omega)
  refine satP_of_body hT Try.func15 (by kernel_rfl) rfl (rs := [.tmp 4]) rfl (n := 27) rfl (by simp) rfl (by simp) fun E hE => ?_
  unfold St.init
  have F := And.intro @rowsD_len hw
  repeat' first
    | refine wSq fun _ hK => ?_
    | refine wRg ?_
    | refine wDr ?_
    | refine VWP_block ?_
    | refine VWP_skip ?_
    | refine VWP_exit ?_
    | refine VWP_ret ?_
    | (refine hK _ ?_; clear hK)
    | (clear hK; refine hK _ ?_; clear hK)
    | (clear hK; clear hK; refine hK _ ?_; clear hK)
    | (clear hK; clear hK; clear hK; refine hK _ ?_; clear hK)
    | (simp only [wHb, reduceCtorEq] at hb <;> try (exfalso; omega))
    | refine wCd (fun hb => ?_) fun hb => ?_
    | simp only [go_sem, Nat.reduceLT, Nat.reduceLeDiff, Nat.reduceEqDiff, Nat.reduceAdd, Nat.reduceMul, Nat.reduceSub, reduceCtorEq, F]
    | simp (disch := omega) only [decide_eq_true_eq, if_pos, if_neg, wrap_id, le_maxLen, and_true, true_and, if_true, ite_true]
    | refine wGd (fun hb => ?_) fun hb => ?_
  · refine wLf ?_
    rw [szDs, if_neg (by omega)]
  refine VWP_loopL (X := Nat) (fun i => [(0, .fr 86 (rowsD 136 ds)), (1, .int .i64 (left - ds.length - entsN (ds.take i))), (5, .int .i64 i)]) (fun _ => []) (fun i => ds.length - i)
    (fun i => i ≤ ds.length ∧ (0 : Int) ≤ left - ds.length - entsN (ds.take i)) 0 0 ⟨by simp, by simp [entsN]; omega⟩ (by simp [updV, entsN]) (by simp) (by simp) ?_
  rintro i nx ⟨hi, hpos⟩ hB
  rcases Nat.lt_or_ge i ds.length with hlt | hge
  · obtain ⟨d, hd⟩ : ∃ d, ds[i]? = some d := ⟨_, List.getElem?_eq_getElem hlt⟩
    have hre := rowsD_at (te := 136) hd
    have hde := he d (List.mem_of_getElem? hd)
    have hs := entsN_succ hd
    have ht := entsN_take ds (i + 1)
    have F := And.intro @rowsD_len (And.intro hre @DescS.cells.eq_1)
    repeat' first
      | refine wSq fun _ hK => ?_
      | refine wRg ?_
      | refine wDr ?_
      | refine VWP_block ?_
      | refine VWP_skip ?_
      | refine VWP_exit ?_
      | refine VWP_ret ?_
      | (refine hK _ ?_; clear hK)
      | (clear hK; refine hK _ ?_; clear hK)
      | (clear hK; clear hK; refine hK _ ?_; clear hK)
      | (clear hK; clear hK; clear hK; refine hK _ ?_; clear hK)
      | (simp only [wHb, reduceCtorEq] at hb <;> try (exfalso; omega))
      | refine wCd (fun hb => ?_) fun hb => ?_
      | refine wCa (c := by first | exact szDesc_ok d _ (by omega) (by omega) hde) (k := ?_)
      | simp only [go_sem, Nat.reduceLT, Nat.reduceLeDiff, Nat.reduceEqDiff, Nat.reduceAdd, Nat.reduceMul, Nat.reduceSub, reduceCtorEq, F]
      | simp (disch := omega) only [decide_eq_true_eq, if_pos, if_neg, wrap_id, le_maxLen, and_true, true_and, if_true, ite_true]
      | refine wGd (fun hb => ?_) fun hb => ?_
    · refine wLf ?_
      rw [szDs, if_neg]
      unfold szB at hb
      split at hb <;> omega
    · have hw2 := wrap_id (x := (i : Int) + 1) (by omega)
      have hz : szB d.entries.length (left - ds.length - entsN (ds.take i)) = left - ds.length - entsN (ds.take (i + 1)) := by
        unfold szB at hb ⊢
        split at hb
        · omega
        · rename_i h2; rw [if_neg h2]; omega
      refine nextL (i + 1) ⟨by omega, by rw [← hz]; omega⟩ (by omega) (by simp [updV, tmL, hw2, hz]) (by simp) (by simp)
  · obtain rfl : i = ds.length := by omega
    have F := @rowsD_len
    repeat' first
      | refine wSq fun _ hK => ?_
      | refine wRg ?_
      | refine wDr ?_
      | refine VWP_block ?_
      | refine VWP_skip ?_
      | refine VWP_exit ?_
      | refine VWP_ret ?_
      | (refine hK _ ?_; clear hK)
      | (clear hK; refine hK _ ?_; clear hK)
      | (clear hK; clear hK; refine hK _ ?_; clear hK)
      | (clear hK; clear hK; clear hK; refine hK _ ?_; clear hK)
      | (simp only [wHb, reduceCtorEq] at hb <;> try (exfalso; omega))
      | refine wCd (fun hb => ?_) fun hb => ?_
      | simp only [go_sem, Nat.reduceLT, Nat.reduceLeDiff, Nat.reduceEqDiff, Nat.reduceAdd, Nat.reduceMul, Nat.reduceSub, reduceCtorEq, F]
      | simp (disch := omega) only [decide_eq_true_eq, if_pos, if_neg, wrap_id, le_maxLen, and_true, true_and, if_true, ite_true]
      | refine wGd (fun hb => ?_) fun hb => ?_
    refine wLf ?_
    rw [List.take_length] at hpos ⊢
    rw [szDs, if_pos (by omega)]
theorem toDescS_ok (ds : List DescS) (hl : ds.length ≤ 1048576) (he : ∀ d ∈ ds, d.entries.length ≤ 1048576) : SatP Try.prog 18 [.fr 86 (rowsD 136 ds)] (.rf 0 ds.length) [(40, rowsD 70 ds)] := by
  refine satP_of_body hT Try.func18 (by kernel_rfl) rfl (rs := [.tmp 2]) rfl (n := 23) rfl (by simp) rfl (by simpa using rowsD_pur _ ds) fun E hE => ?_
  unfold St.init
  have F := @rowsD_len
  repeat' first
    | refine wSq fun _ hK => ?_
    | refine wRg ?_
    | refine wDr ?_
    | refine VWP_block ?_
    | refine VWP_skip ?_
    | refine VWP_exit ?_
    | refine VWP_ret ?_
    | (refine hK _ ?_; clear hK)
    | (clear hK; refine hK _ ?_; clear hK)
    | (clear hK; clear hK; refine hK _ ?_; clear hK)
    | (clear hK; clear hK; clear hK; refine hK _ ?_; clear hK)
    | (simp only [wHb, reduceCtorEq] at hb <;> try (exfalso; omega))
    | refine wCd (fun hb => ?_) fun hb => ?_
    | simp only [go_sem, Nat.reduceLT, Nat.reduceLeDiff, Nat.reduceEqDiff, Nat.reduceAdd, Nat.reduceMul, Nat.reduceSub, reduceCtorEq, F]
    | simp (disch := omega) only [decide_eq_true_eq, if_pos, if_neg, wrap_id, le_maxLen, and_true, true_and, if_true, ite_true]
    | refine wGd (fun hb => ?_) fun hb => ?_
  refine VWP_loopL (X := Nat × List (List PT)) (fun x => [(0, .fr 86 (rowsD 136 ds)), (3, .rf 0 ds.length), (4, .int .i64 x.1)]) (fun x => [(0, .root 40 x.2)]) (fun x => ds.length - x.1)
    (fun x => x.1 ≤ ds.length ∧ x.2.length = ds.length ∧ (∀ j e, j < x.1 → ds[j]? = some e → x.2[j]? = some (rowT 70 e)) ∧ (∀ j, x.1 ≤ j → j < ds.length → x.2[j]? = some [.int .i64 0, .int .i64 0, .list 70 []]))
    1 (0, List.replicate ds.length [.int .i64 0, .int .i64 0, .list 70 []]) ⟨by simp, by simp, by simp, fun j _ hj => by simp [hj]⟩ (by simp [updV]) (by simp [updH, zPT]) (by simp) ?_
  rintro ⟨i, rows⟩ nx ⟨hi, hlen, hdone, hrest⟩ hB
  rcases Nat.lt_or_ge i ds.length with hlt | hge
  · obtain ⟨e, hei⟩ : ∃ e, ds[i]? = some e := ⟨_, List.getElem?_eq_getElem hlt⟩
    have hr := hrest i (Nat.le_refl _) hlt
    simp only at hr hi hlen hdone hrest
    have hre := rowsD_at (te := 136) hei
    have hli : i < rows.length := by omega
    have F := And.intro @rowsD_len (And.intro hre (And.intro hr (And.intro hlen @DescS.cells.eq_1)))
    repeat' first
      | refine wSq fun _ hK => ?_
      | refine wRg ?_
      | refine wDr ?_
      | refine VWP_block ?_
      | refine VWP_skip ?_
      | refine VWP_exit ?_
      | refine VWP_ret ?_
      | (refine hK _ ?_; clear hK)
      | (clear hK; refine hK _ ?_; clear hK)
      | (clear hK; clear hK; refine hK _ ?_; clear hK)
      | (clear hK; clear hK; clear hK; refine hK _ ?_; clear hK)
      | (simp only [wHb, reduceCtorEq] at hb <;> try (exfalso; omega))
      | refine wCd (fun hb => ?_) fun hb => ?_
      | refine wCa (c := by first | exact toDesc_ok e (he e (List.mem_of_getElem? hei))) (k := ?_)
      | simp only [go_sem, Nat.reduceLT, Nat.reduceLeDiff, Nat.reduceEqDiff, Nat.reduceAdd, Nat.reduceMul, Nat.reduceSub, reduceCtorEq, F]
      | simp (disch := omega) only [decide_eq_true_eq, if_pos, if_neg, wrap_id, le_maxLen, and_true, true_and, if_true, ite_true]
      | refine wGd (fun hb => ?_) fun hb => ?_
    have hw := wrap_id (x := (i : Int) + 1) (by omega)
    have hne : nx ≠ 0 := by omega
    refine nextM [(0, i, 2)] (by simp only [merges, mergeH, go_sem, Nat.reduceLT, Nat.reduceLeDiff, Nat.reduceEqDiff, Nat.reduceAdd, Nat.reduceMul, Nat.reduceSub, reduceCtorEq, List.getElem?_set_self hli, hne, Ne.symm hne, rowsE_len, Nat.le_refl, List.set_set, List.set_cons_succ, List.set_cons_zero]; rfl) (i + 1, rows.set i (rowT 70 e)) ⟨?_, ?_, ?_, ?_⟩ ?_ (by simp [updV, tmL, hw]) (by simp [updH, hpL, rowT, rowsE_take]) (by omega)
    · simp only; omega
    · simpa using hlen
    · intro j f hj hf
      rcases Nat.lt_or_ge j i with h | h
      · simp only; rw [List.getElem?_set_ne (by omega)]; exact hdone j f h hf
      · obtain rfl : j = i := by simp only at hj; omega
        rw [hei] at hf
        cases hf
        simp [hlen, hlt]
    · intro j hj hj2
      simp only at hj
      simp only
      rw [List.getElem?_set_ne (by omega)]
      exact hrest j (by omega) hj2
    · simp only; omega
  · simp only at hi hlen hdone hrest
    obtain rfl : i = ds.length := by omega
    have hrows : rows = rowsD 70 ds := by
      refine List.ext_getElem? fun j => ?_
      rcases Nat.lt_or_ge j ds.length with h | h
      · obtain ⟨e, he⟩ : ∃ e, ds[j]? = some e := ⟨_, List.getElem?_eq_getElem h⟩
        rw [hdone j e h he, rowsD_at he]
        rfl
      · rw [List.getElem?_eq_none (by omega), List.getElem?_eq_none (by rw [rowsD_len]; omega)]
    subst hrows
    have F := @rowsD_len
    repeat' first
      | refine wSq fun _ hK => ?_
      | refine wRg ?_
      | refine wDr ?_
      | refine VWP_block ?_
      | refine VWP_skip ?_
      | refine VWP_exit ?_
      | refine VWP_ret ?_
      | (refine hK _ ?_; clear hK)
      | (clear hK; refine hK _ ?_; clear hK)
      | (clear hK; clear hK; refine hK _ ?_; clear hK)
      | (clear hK; clear hK; clear hK; refine hK _ ?_; clear hK)
      | (simp only [wHb, reduceCtorEq] at hb <;> try (exfalso; omega))
      | refine wCd (fun hb => ?_) fun hb => ?_
      | simp only [go_sem, Nat.reduceLT, Nat.reduceLeDiff, Nat.reduceEqDiff, Nat.reduceAdd, Nat.reduceMul, Nat.reduceSub, reduceCtorEq, F]
      | simp (disch := omega) only [decide_eq_true_eq, if_pos, if_neg, wrap_id, le_maxLen, and_true, true_and, if_true, ite_true]
      | refine wGd (fun hb => ?_) fun hb => ?_
    refine ret_rf (T := 0) (by simp only [go_sem, Nat.reduceLT, Nat.reduceLeDiff, Nat.reduceEqDiff, Nat.reduceAdd, Nat.reduceMul, Nat.reduceSub, reduceCtorEq]) (by simp only [go_sem, Nat.reduceLT, Nat.reduceLeDiff, Nat.reduceEqDiff, Nat.reduceAdd, Nat.reduceMul, Nat.reduceSub, reduceCtorEq]) (rowsD_len _ ds).symm (rowsD_pur _ ds)
end Go.Proofs.Ytchkbgekmoileaa
