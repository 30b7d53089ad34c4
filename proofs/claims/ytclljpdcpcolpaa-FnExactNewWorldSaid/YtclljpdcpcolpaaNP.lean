/- Lists of programs: what the laws' functions of them give. -/
import Derived.Test.YtclljpdcpcolpaaPD
import Derived.Test.YtclljpdcpcolpaaTD
import Derived.Test.YtclljpdcpcolpaaEM
namespace Go.Proofs.Ytclljpdcpcolpaa
open Go Go.RowKit
set_option linter.unusedVariables false
set_option linter.unusedSimpArgs false
set_option maxRecDepth 100000
set_option maxHeartbeats 4000000
attribute [local irreducible] VWP vops vdraw contV contD CallK Guard GuardV NextL Puts Runs RetOK RetQ RetO RetQO thenQ blockQ
attribute [local irreducible] NextN

def rowP (ti : TypeId) (p : List InsS) : List PT := [.list ti (rowsI p)]
def rowsP (ti : TypeId) (ps : List (List InsS)) : List (List PT) := ps.map (rowP ti)
theorem rowsP_len (ti : TypeId) (ps : List (List InsS)) : (rowsP ti ps).length = ps.length := by simp [rowsP]
theorem rowsP_pur (ti : TypeId) (ps : List (List InsS)) : PurRows (rowsP ti ps) := by
  intro r hr c hc
  simp only [rowsP, List.mem_map] at hr
  obtain ⟨p, _, rfl⟩ := hr
  simp only [rowP, List.mem_cons, List.not_mem_nil, or_false] at hc
  subst hc
  exact .list _ _ (rowsI_pur p)
theorem rowsP_take (ti : TypeId) (ps : List (List InsS)) : (rowsP ti ps).take ps.length = rowsP ti ps := by rw [List.take_of_length_le (by rw [rowsP_len]; exact Nat.le_refl _)]
theorem rowsP_at {ti : TypeId} {ps : List (List InsS)} {i : Nat} {p : List InsS} (h : ps[i]? = some p) : (rowsP ti ps)[i]? = some [.list ti (rowsI p)] := by simp [rowsP, h, rowP]
def insN : List (List InsS) → Nat
  | [] => 0
  | p :: ps => p.length + insN ps
theorem insN_app : ∀ (xs bs : List (List InsS)), insN (xs ++ bs) = insN xs + insN bs
  | [], bs => by simp [insN]
  | a :: xs, bs => by simp only [List.cons_append, insN, insN_app xs bs]; omega
theorem insN_succ {ps : List (List InsS)} {i : Nat} {p : List InsS} (h : ps[i]? = some p) : insN (ps.take (i + 1)) = insN (ps.take i) + p.length := by
  rw [List.take_add_one, h, insN_app]
  simp [insN]
theorem insN_take (ps : List (List InsS)) (i : Nat) : insN (ps.take i) ≤ insN ps := by
  have := insN_app (ps.take i) (ps.drop i)
  rw [List.take_append_drop] at this
  omega
theorem insN_mem : ∀ {ps : List (List InsS)} {p : List InsS}, p ∈ ps → p.length ≤ insN ps
  | q :: ps, p, h => by
    rcases List.mem_cons.1 h with rfl | h
    · simp only [insN]; omega
    · have := insN_mem h
      simp only [insN]; omega
def szPs (ps : List (List InsS)) (left : Int) : Int := if (ps.length : Int) + insN ps ≤ left then left - ps.length - insN ps else -1
theorem szInstrSS_ok (ps : List (List InsS)) (left : Int) (h0 : 0 ≤ left) (h1 : left ≤ 1048576) (hl : ps.length ≤ 9223372036854775807) (he : ∀ p ∈ ps, p.length ≤ 9223372036854775807) :
    SatP Try.prog 51 [.fr 75 (rowsP 184 ps), .int .i64 left] (.int .i64 (szPs ps left)) [] := by
  have hw : IntKind.i64.wrap (left - ps.length) = left - ps.length := wrap_id (by omega)
  refine satP_of_body hT Try.func51 (by kernel_rfl) rfl (rs := [.tmp 4]) rfl (n := 27) rfl (by simp) rfl (by simp) fun E hE => ?_
  unfold St.init
  have F := And.intro @rowsP_len hw
  repeat' first
    | refine wSq fun _ hK => ?_
    | refine wRg ?_
    | refine wDr ?_
    | refine VWP_block ?_
    | refine VWP_skip ?_
    | refine VWP_exit ?_
    | refine VWP_ret ?_
    | (refine hK _ ?_; clear hK)
    | (clear hK; refine hK _ ?_; clear hK)
    | (clear hK; clear hK; refine hK _ ?_; clear hK)
    | (clear hK; clear hK; clear hK; refine hK _ ?_; clear hK)
    | (simp only [wHb, reduceCtorEq] at hb <;> try (exfalso; omega))
    | refine wCd (fun hb => ?_) fun hb => ?_
    | simp only [go_sem, Nat.reduceLT, Nat.reduceLeDiff, Nat.reduceEqDiff, Nat.reduceAdd, Nat.reduceMul, Nat.reduceSub, reduceCtorEq, F]
    | simp (disch := omega) only [decide_eq_true_eq, if_pos, if_neg, wrap_id, le_maxLen, and_true, true_and, if_true, ite_true]
    | refine wGd (fun hb => ?_) fun hb => ?_
  · refine wLf ?_
    rw [szPs, if_neg (by omega)]
  refine VWP_loopL (X := Nat) (fun i => [(0, .fr 75 (rowsP 184 ps)), (1, .int .i64 (left - ps.length - insN (ps.take i))), (5, .int .i64 i)]) (fun _ => []) (fun i => ps.length - i)
    (fun i => i ≤ ps.length ∧ (0 : Int) ≤ left - ps.length - insN (ps.take i)) 0 0 ⟨by simp, by simp [insN]; omega⟩ (by simp [updV, insN]) (by simp) (by simp) ?_
  rintro i nx ⟨hi, hpos⟩ hB
  rcases Nat.lt_or_ge i ps.length with hlt | hge
  · obtain ⟨d, hd⟩ : ∃ d, ps[i]? = some d := ⟨_, List.getElem?_eq_getElem hlt⟩
    have hre := rowsP_at (ti := 184) hd
    have hde := he d (List.mem_of_getElem? hd)
    have hs := insN_succ hd
    have ht := insN_take ps (i + 1)
    have F := And.intro @rowsP_len hre
    repeat' first
      | refine wSq fun _ hK => ?_
      | refine wRg ?_
      | refine wDr ?_
      | refine VWP_block ?_
      | refine VWP_skip ?_
      | refine VWP_exit ?_
      | refine VWP_ret ?_
      | (refine hK _ ?_; clear hK)
      | (clear hK; refine hK _ ?_; clear hK)
      | (clear hK; clear hK; refine hK _ ?_; clear hK)
      | (clear hK; clear hK; clear hK; refine hK _ ?_; clear hK)
      | (simp only [wHb, reduceCtorEq] at hb <;> try (exfalso; omega))
      | refine wCd (fun hb => ?_) fun hb => ?_
      | refine wCa (c := by first | exact szInstrS_ok d _ (by omega) (by omega) hde) (k := ?_)
      | simp only [go_sem, Nat.reduceLT, Nat.reduceLeDiff, Nat.reduceEqDiff, Nat.reduceAdd, Nat.reduceMul, Nat.reduceSub, reduceCtorEq, F]
      | simp (disch := omega) only [decide_eq_true_eq, if_pos, if_neg, wrap_id, le_maxLen, and_true, true_and, if_true, ite_true]
      | refine wGd (fun hb => ?_) fun hb => ?_
    · refine wLf ?_
      rw [szPs, if_neg]
      unfold szB at hb
      split at hb <;> omega
    · have hw2 := wrap_id (x := (i : Int) + 1) (by omega)
      have hz : szB d.length (left - ps.length - insN (ps.take i)) = left - ps.length - insN (ps.take (i + 1)) := by
        unfold szB at hb ⊢
        split at hb
        · omega
        · rename_i h2; rw [if_neg h2]; omega
      refine nextL (i + 1) ⟨by omega, by rw [← hz]; omega⟩ (by omega) (by simp [updV, tmL, hw2, hz]) (by simp) (by simp)
  · obtain rfl : i = ps.length := by omega
    have F := @rowsP_len
    repeat' first
      | refine wSq fun _ hK => ?_
      | refine wRg ?_
      | refine wDr ?_
      | refine VWP_block ?_
      | refine VWP_skip ?_
      | refine VWP_exit ?_
      | refine VWP_ret ?_
      | (refine hK _ ?_; clear hK)
      | (clear hK; refine hK _ ?_; clear hK)
      | (clear hK; clear hK; refine hK _ ?_; clear hK)
      | (clear hK; clear hK; clear hK; refine hK _ ?_; clear hK)
      | (simp only [wHb, reduceCtorEq] at hb <;> try (exfalso; omega))
      | refine wCd (fun hb => ?_) fun hb => ?_
      | simp only [go_sem, Nat.reduceLT, Nat.reduceLeDiff, Nat.reduceEqDiff, Nat.reduceAdd, Nat.reduceMul, Nat.reduceSub, reduceCtorEq, F]
      | simp (disch := omega) only [decide_eq_true_eq, if_pos, if_neg, wrap_id, le_maxLen, and_true, true_and, if_true, ite_true]
      | refine wGd (fun hb => ?_) fun hb => ?_
    refine wLf ?_
    rw [List.take_length] at hpos ⊢
    rw [szPs, if_pos (by omega)]
theorem toInstrSS_ok (ps : List (List InsS)) (hl : ps.length ≤ 1048576) (he : ∀ p ∈ ps, p.length ≤ 1048576) : SatP Try.prog 53 [.fr 75 (rowsP 184 ps)] (.rf 0 ps.length) [(81, rowsP 146 ps)] := by
  refine satP_of_body hT Try.func53 (by kernel_rfl) rfl (rs := [.tmp 2]) rfl (n := 23) rfl (by simp) rfl (by simpa using rowsP_pur _ ps) fun E hE => ?_
  unfold St.init
  have F := @rowsP_len
  repeat' first
    | refine wSq fun _ hK => ?_
    | refine wRg ?_
    | refine wDr ?_
    | refine VWP_block ?_
    | refine VWP_skip ?_
    | refine VWP_exit ?_
    | refine VWP_ret ?_
    | (refine hK _ ?_; clear hK)
    | (clear hK; refine hK _ ?_; clear hK)
    | (clear hK; clear hK; refine hK _ ?_; clear hK)
    | (clear hK; clear hK; clear hK; refine hK _ ?_; clear hK)
    | (simp only [wHb, reduceCtorEq] at hb <;> try (exfalso; omega))
    | refine wCd (fun hb => ?_) fun hb => ?_
    | simp only [go_sem, Nat.reduceLT, Nat.reduceLeDiff, Nat.reduceEqDiff, Nat.reduceAdd, Nat.reduceMul, Nat.reduceSub, reduceCtorEq, F]
    | simp (disch := omega) only [decide_eq_true_eq, if_pos, if_neg, wrap_id, le_maxLen, and_true, true_and, if_true, ite_true]
    | refine wGd (fun hb => ?_) fun hb => ?_
  have n1 := rowsP_len 146 ps
  have n2 : (List.replicate ps.length [PT.list 146 []]).length = ps.length := by simp
  have n3 := rowsP_pur 146 ps
  have n4 : PurRows (List.replicate ps.length [PT.list 146 []]) := rep_pur fun c hc => by
    simp only [List.mem_cons, List.not_mem_nil, or_false] at hc
    subst hc
    exact .list _ _ (rowsI_pur [])
  generalize hZ : List.replicate ps.length [PT.list 146 []] = Z at *
  refine VWP_loopN hE (X := Nat) (fun i => [(0, .fr 75 (rowsP 184 ps)), (3, .rf 0 ps.length), (4, .int .i64 i)]) (fun i => [(0, .root 81 (mixL (rowsP 146 ps) Z i))]) (fun i => ps.length - i)
    (fun i => i ≤ ps.length) [0] 0 (by simp) (by decide) (by decide) (by simp [updV, renV, renA, renC]) (by simp [updH, renH_at, renE, zPT, mixL_zero, ← hZ]; rw [hZ]; exact n4) ?_
  intro i hi
  have n5 := mixL_len n1 n2 hi
  have hw := wrap_id (x := (i : Int) + 1) (by omega)
  have n6 := mixL_pur n3 n4
  rcases Nat.lt_or_ge i ps.length with hlt | hge
  · obtain ⟨p, hp⟩ : ∃ p, ps[i]? = some p := ⟨_, List.getElem?_eq_getElem hlt⟩
    have hre := rowsP_at (ti := 184) hp
    have hz : Z[i]? = some [PT.list 146 []] := by rw [← hZ]; simp [hlt]
    have hr := mixL_at n1 n2 hlt hz
    have hs := mixL_set n1 n2 (rowsP_at (ti := 146) hp)
    have hli : i < (mixL (rowsP 146 ps) Z i).length := by rw [n5]; exact hlt
    have F := And.intro @rowsP_len (And.intro hre (And.intro hr (And.intro hlt n5)))
    repeat' first
      | refine wSq fun _ hK => ?_
      | refine wRg ?_
      | refine wDr ?_
      | refine VWP_block ?_
      | refine VWP_skip ?_
      | refine VWP_exit ?_
      | refine VWP_ret ?_
      | (refine hK _ ?_; clear hK)
      | (clear hK; refine hK _ ?_; clear hK)
      | (clear hK; clear hK; refine hK _ ?_; clear hK)
      | (clear hK; clear hK; clear hK; refine hK _ ?_; clear hK)
      | (simp only [wHb, reduceCtorEq] at hb <;> try (exfalso; omega))
      | refine wCd (fun hb => ?_) fun hb => ?_
      | refine wCa (c := by first | exact toInstrS_ok p (he p (List.mem_of_getElem? hp))) (k := ?_)
      | simp only [go_sem, Nat.reduceLT, Nat.reduceLeDiff, Nat.reduceEqDiff, Nat.reduceAdd, Nat.reduceMul, Nat.reduceSub, reduceCtorEq, F]
      | simp (disch := omega) only [decide_eq_true_eq, if_pos, if_neg, wrap_id, le_maxLen, and_true, true_and, if_true, ite_true]
      | refine wGd (fun hb => ?_) fun hb => ?_
    refine nextN [(0, i, 0)] (by simp only [merges, mergeH, go_sem, Nat.reduceLT, Nat.reduceLeDiff, Nat.reduceEqDiff, Nat.reduceAdd, Nat.reduceMul, Nat.reduceSub, reduceCtorEq, List.getElem?_set_self hli, List.set_set, List.set_cons_zero, rowsI_len, rowsI_take, Nat.le_refl]; rfl) [0] (i + 1) rfl (by decide) (by decide) (by omega) (by omega) (by simp [updV, tmL, renV, renA, renC, hw]) ?_
    simp [updH, hpL, renH_at, renE, hs, n6]
  · obtain rfl : i = ps.length := by omega
    have h0 := mixL_all n1 n2
    rw [h0]
    have F := @rowsP_len
    repeat' first
      | refine wSq fun _ hK => ?_
      | refine wRg ?_
      | refine wDr ?_
      | refine VWP_block ?_
      | refine VWP_skip ?_
      | refine VWP_exit ?_
      | refine VWP_ret ?_
      | (refine hK _ ?_; clear hK)
      | (clear hK; refine hK _ ?_; clear hK)
      | (clear hK; clear hK; refine hK _ ?_; clear hK)
      | (clear hK; clear hK; clear hK; refine hK _ ?_; clear hK)
      | (simp only [wHb, reduceCtorEq] at hb <;> try (exfalso; omega))
      | refine wCd (fun hb => ?_) fun hb => ?_
      | simp only [go_sem, Nat.reduceLT, Nat.reduceLeDiff, Nat.reduceEqDiff, Nat.reduceAdd, Nat.reduceMul, Nat.reduceSub, reduceCtorEq, F]
      | simp (disch := omega) only [decide_eq_true_eq, if_pos, if_neg, wrap_id, le_maxLen, and_true, true_and, if_true, ite_true]
      | refine wGd (fun hb => ?_) fun hb => ?_
    refine ret_rf (T := 0) (by simp only [go_sem, Nat.reduceLT, Nat.reduceLeDiff, Nat.reduceEqDiff, Nat.reduceAdd, Nat.reduceMul, Nat.reduceSub, reduceCtorEq]) (by simp only [go_sem, Nat.reduceLT, Nat.reduceLeDiff, Nat.reduceEqDiff, Nat.reduceAdd, Nat.reduceMul, Nat.reduceSub, reduceCtorEq]) (rowsP_len _ ps).symm (rowsP_pur _ ps)
theorem eqInstrSS_ok (es fs : List (List InsS)) (hl : es.length ≤ 1048576) (he : ∀ d ∈ es, d.length ≤ 1048576) : SatP Try.prog 56 [.fr 81 (rowsP 146 es), .fr 81 (rowsP 146 fs)] (.bool (decide (es = fs))) [] := by
  refine satP_of_body hT Try.func56 (by kernel_rfl) rfl (rs := [.tmp 4]) rfl (n := 27) rfl (by simp) rfl (by simp) fun E hE => ?_
  unfold St.init
  have F := @rowsP_len
  repeat' first
    | refine wSq fun _ hK => ?_
    | refine wRg ?_
    | refine wDr ?_
    | refine VWP_block ?_
    | refine VWP_skip ?_
    | refine VWP_exit ?_
    | refine VWP_ret ?_
    | (refine hK _ ?_; clear hK)
    | (clear hK; refine hK _ ?_; clear hK)
    | (clear hK; clear hK; refine hK _ ?_; clear hK)
    | (clear hK; clear hK; clear hK; refine hK _ ?_; clear hK)
    | (simp only [wHb, reduceCtorEq] at hb <;> try (exfalso; omega))
    | refine wCd (fun hb => ?_) fun hb => ?_
    | simp only [go_sem, Nat.reduceLT, Nat.reduceLeDiff, Nat.reduceEqDiff, Nat.reduceAdd, Nat.reduceMul, Nat.reduceSub, reduceCtorEq, F]
    | simp (disch := omega) only [decide_eq_true_eq, if_pos, if_neg, wrap_id, le_maxLen, and_true, true_and, if_true, ite_true]
    | refine wGd (fun hb => ?_) fun hb => ?_
  · refine wLf ?_
    have : es ≠ fs := fun h => by subst h; simp at hb
    simp [this]
  have hlen : es.length = fs.length := by simp at hb; omega
  clear hb
  refine VWP_loopL (X := Nat) (fun i => [(0, .fr 81 (rowsP 146 es)), (1, .fr 81 (rowsP 146 fs)), (5, .int .i64 i)]) (fun _ => []) (fun i => es.length - i) (fun i => i ≤ es.length ∧ ∀ j, j < i → es[j]? = fs[j]?) 0 0 ⟨by simp, by simp⟩ (by simp [updV]) (by simp) (by simp) ?_
  rintro i nx ⟨hi, hdone⟩ hB
  rcases Nat.lt_or_ge i es.length with hlt | hge
  · obtain ⟨e, hei⟩ : ∃ e, es[i]? = some e := ⟨_, List.getElem?_eq_getElem hlt⟩
    obtain ⟨f, hfi⟩ : ∃ f, fs[i]? = some f := ⟨_, List.getElem?_eq_getElem (by omega)⟩
    have hre := rowsP_at (ti := 146) hei
    have hrf := rowsP_at (ti := 146) hfi
    have F := And.intro @rowsP_len (And.intro hre hrf)
    repeat' first
      | refine wSq fun _ hK => ?_
      | refine wRg ?_
      | refine wDr ?_
      | refine VWP_block ?_
      | refine VWP_skip ?_
      | refine VWP_exit ?_
      | refine VWP_ret ?_
      | (refine hK _ ?_; clear hK)
      | (clear hK; refine hK _ ?_; clear hK)
      | (clear hK; clear hK; refine hK _ ?_; clear hK)
      | (clear hK; clear hK; clear hK; refine hK _ ?_; clear hK)
      | (simp only [wHb, reduceCtorEq] at hb <;> try (exfalso; omega))
      | refine wCd (fun hb => ?_) fun hb => ?_
      | refine wCa (c := by first | exact eqInstrS_ok e f (he e (List.mem_of_getElem? hei))) (k := ?_)
      | simp only [go_sem, Nat.reduceLT, Nat.reduceLeDiff, Nat.reduceEqDiff, Nat.reduceAdd, Nat.reduceMul, Nat.reduceSub, reduceCtorEq, F]
      | simp (disch := omega) only [decide_eq_true_eq, if_pos, if_neg, wrap_id, le_maxLen, and_true, true_and, if_true, ite_true]
      | refine wGd (fun hb => ?_) fun hb => ?_
    · refine wLf ?_
      have : es ≠ fs := fun h => by subst h; rw [hei] at hfi; cases hfi; simp_all
      simp [this]
    · have hef : e = f := by assumption
      have hw := wrap_id (x := (i : Int) + 1) (by omega)
      refine nextL (i + 1) ⟨by omega, fun j hj => ?_⟩ (by omega) (by simp [updV, tmL, hw]) (by simp) (by simp)
      rcases Nat.lt_or_ge j i with h | h
      · exact hdone j h
      · obtain rfl : j = i := by omega
        rw [hei, hfi, hef]
  · obtain rfl : i = es.length := by omega
    have : es = fs := List.ext_getElem? fun j => by
      rcases Nat.lt_or_ge j es.length with h | h
      · exact hdone j h
      · rw [List.getElem?_eq_none (by omega), List.getElem?_eq_none (by omega)]
    have F := @rowsP_len
    repeat' first
      | refine wSq fun _ hK => ?_
      | refine wRg ?_
      | refine wDr ?_
      | refine VWP_block ?_
      | refine VWP_skip ?_
      | refine VWP_exit ?_
      | refine VWP_ret ?_
      | (refine hK _ ?_; clear hK)
      | (clear hK; refine hK _ ?_; clear hK)
      | (clear hK; clear hK; refine hK _ ?_; clear hK)
      | (clear hK; clear hK; clear hK; refine hK _ ?_; clear hK)
      | (simp only [wHb, reduceCtorEq] at hb <;> try (exfalso; omega))
      | refine wCd (fun hb => ?_) fun hb => ?_
      | simp only [go_sem, Nat.reduceLT, Nat.reduceLeDiff, Nat.reduceEqDiff, Nat.reduceAdd, Nat.reduceMul, Nat.reduceSub, reduceCtorEq, F]
      | simp (disch := omega) only [decide_eq_true_eq, if_pos, if_neg, wrap_id, le_maxLen, and_true, true_and, if_true, ite_true]
      | refine wGd (fun hb => ?_) fun hb => ?_
    refine wLf ?_
    simp [this]
def marksP (k : Int) (ps : List (List InsS)) : List (List InsS) := ps.mapIdx fun j p => marksI (k + 3 * (insN (ps.take j) : Int)) p.length
theorem marksP_len (k : Int) (ps : List (List InsS)) : (marksP k ps).length = ps.length := by simp [marksP]
theorem marksP_at {k : Int} {ps : List (List InsS)} {j : Nat} {p : List InsS} (h : ps[j]? = some p) : (marksP k ps)[j]? = some (marksI (k + 3 * (insN (ps.take j) : Int)) p.length) := by simp [marksP, h]
theorem markInstrSS_ok (ps : List (List InsS)) (k : Int) (h0 : 0 ≤ k) (h1 : k ≤ 1073741824) (hl : ps.length ≤ 1048576) (he : insN ps ≤ 1048576) :
    SatO Try.prog 57 [.rf 0 ps.length, .int .i64 k] [.root 81 (rowsP 146 ps)] (.int .i64 (k + 3 * (insN ps : Int))) [.root 81 (rowsP 146 (marksP k ps))] := by
  refine satO_of_body hT Try.func57 (by kernel_rfl) rfl (rs := [.tmp 4]) rfl (n := 19) rfl (by simp) rfl (m := 1) rfl ⟨⟨rfl, rowsP_pur _ _⟩, by simp [keptL]⟩ fun E hE => ?_
  unfold St.initO
  have F := @rowsP_len
  repeat' first
    | refine wSq fun _ hK => ?_
    | refine wRg ?_
    | refine wDr ?_
    | refine VWP_block ?_
    | refine VWP_skip ?_
    | refine VWP_exit ?_
    | refine VWP_ret ?_
    | (refine hK _ ?_; clear hK)
    | (clear hK; refine hK _ ?_; clear hK)
    | (clear hK; clear hK; refine hK _ ?_; clear hK)
    | (clear hK; clear hK; clear hK; refine hK _ ?_; clear hK)
    | (simp only [wHb, reduceCtorEq] at hb <;> try (exfalso; omega))
    | refine wCd (fun hb => ?_) fun hb => ?_
    | simp only [go_sem, Nat.reduceLT, Nat.reduceLeDiff, Nat.reduceEqDiff, Nat.reduceAdd, Nat.reduceMul, Nat.reduceSub, reduceCtorEq, F]
    | simp (disch := omega) only [decide_eq_true_eq, if_pos, if_neg, wrap_id, le_maxLen, and_true, true_and, if_true, ite_true]
    | refine wGd (fun hb => ?_) fun hb => ?_
  have n1 : (rowsP 146 (marksP k ps)).length = ps.length := by rw [rowsP_len, marksP_len]
  have n2 := rowsP_len 146 ps
  have n3 := rowsP_pur 146 (marksP k ps)
  have n4 := rowsP_pur 146 ps
  refine VWP_loopN hE (X := Nat) (fun i => [(0, .rf 0 ps.length), (1, .int .i64 (k + 3 * (insN (ps.take i) : Int))), (5, .int .i64 i)]) (fun i => [(0, .root 81 (mixL (rowsP 146 (marksP k ps)) (rowsP 146 ps) i))]) (fun i => ps.length - i)
    (fun i => i ≤ ps.length) [0] 0 (by simp) (by decide) (by decide) (by simp [updV, renV, renA, renC, insN]) (by simp [HpE, renH_at, renE, mixL_zero, n4]) ?_
  intro i hi
  have n5 := mixL_len n1 n2 hi
  have hw := wrap_id (x := (i : Int) + 1) (by omega)
  have n6 := mixL_pur n3 n4
  rcases Nat.lt_or_ge i ps.length with hlt | hge
  · obtain ⟨p, hp⟩ : ∃ p, ps[i]? = some p := ⟨_, List.getElem?_eq_getElem hlt⟩
    have hsu := insN_succ hp
    have hta := insN_take ps i
    have htb := insN_take ps (i + 1)
    have hmm := insN_mem (List.mem_of_getElem? hp)
    have hr := mixL_at n1 n2 hlt (rowsP_at (ti := 146) hp)
    have hs := mixL_set n1 n2 (rowsP_at (ti := 146) (marksP_at (k := k) hp))
    have hli : i < (mixL (rowsP 146 (marksP k ps)) (rowsP 146 ps) i).length := by rw [n5]; exact hlt
    have hk : k + 3 * (insN (ps.take i) : Int) + 3 * (p.length : Int) = k + 3 * (insN (ps.take (i + 1)) : Int) := by omega
    simp only [List.length_cons, List.length_nil, Nat.zero_add]
    refine VWP_split [(0, i, 0)] (by simp only [splits, splitH, hpL, hr, go_sem, Nat.reduceLT, Nat.reduceLeDiff, Nat.reduceEqDiff, Nat.reduceAdd, Nat.reduceMul, Nat.reduceSub, reduceCtorEq, List.find?]; rfl) ?_
    have F := And.intro @rowsP_len (And.intro hli (And.intro hlt (And.intro n5 (And.intro @rowsI_len (And.intro @rowsI_pur (And.intro @marksI_len (And.intro (fun a => List.getElem?_set_self (a := a) hli) (And.intro @List.length_set.{0} (And.intro @List.set_set.{0} (And.intro @List.set_cons_zero.{0} @Nat.le_refl))))))))))
    repeat' first
      | refine wSq fun _ hK => ?_
      | refine wRg ?_
      | refine wDr ?_
      | refine VWP_block ?_
      | refine VWP_skip ?_
      | refine VWP_exit ?_
      | refine VWP_ret ?_
      | (refine hK _ ?_; clear hK)
      | (clear hK; refine hK _ ?_; clear hK)
      | (clear hK; clear hK; refine hK _ ?_; clear hK)
      | (clear hK; clear hK; clear hK; refine hK _ ?_; clear hK)
      | (simp only [wHb, reduceCtorEq] at hb <;> try (exfalso; omega))
      | refine wCd (fun hb => ?_) fun hb => ?_
      | refine wOw [1] (c := by exact markInstrS_ok p (k + 3 * (insN (ps.take i) : Int)) (by omega) (by omega) (by omega)) (k := ?_)
      | simp only [go_sem, Nat.reduceLT, Nat.reduceLeDiff, Nat.reduceEqDiff, Nat.reduceAdd, Nat.reduceMul, Nat.reduceSub, reduceCtorEq, F]
      | simp (disch := omega) only [decide_eq_true_eq, if_pos, if_neg, wrap_id, le_maxLen, and_true, true_and, if_true, ite_true]
      | refine wGd (fun hb => ?_) fun hb => ?_
    have htk : (rowsI (marksI (k + 3 * (insN (ps.take i) : Int)) p.length)).take p.length = rowsI (marksI (k + 3 * (insN (ps.take i) : Int)) p.length) := by
      rw [List.take_of_length_le (by rw [rowsI_len, marksI_len]; exact Nat.le_refl _)]
    refine nextN [(0, i, 0)] (by simp only [merges, mergeH, go_sem, Nat.reduceLT, Nat.reduceLeDiff, Nat.reduceEqDiff, Nat.reduceAdd, Nat.reduceMul, Nat.reduceSub, reduceCtorEq, List.getElem?_set_self hli, List.set_set, List.set_cons_zero, rowsI_len, marksI_len, htk, Nat.le_refl]; rfl) [0] (i + 1) rfl (by decide) (by decide) (by omega) (by omega) (by simp [updV, tmL, renV, renA, renC, hw, hk]) ?_
    simp [updH, hpL, renH_at, renE, hs, n6]
  · obtain rfl : i = ps.length := by omega
    have h0 := mixL_all n1 n2
    rw [h0, List.take_length]
    have F := And.intro @rowsP_len (And.intro @marksP_len @Nat.le_refl)
    repeat' first
      | refine wSq fun _ hK => ?_
      | refine wRg ?_
      | refine wDr ?_
      | refine VWP_block ?_
      | refine VWP_skip ?_
      | refine VWP_exit ?_
      | refine VWP_ret ?_
      | (refine hK _ ?_; clear hK)
      | (clear hK; refine hK _ ?_; clear hK)
      | (clear hK; clear hK; refine hK _ ?_; clear hK)
      | (clear hK; clear hK; clear hK; refine hK _ ?_; clear hK)
      | (simp only [wHb, reduceCtorEq] at hb <;> try (exfalso; omega))
      | refine wCd (fun hb => ?_) fun hb => ?_
      | simp only [go_sem, Nat.reduceLT, Nat.reduceLeDiff, Nat.reduceEqDiff, Nat.reduceAdd, Nat.reduceMul, Nat.reduceSub, reduceCtorEq, F]
      | simp (disch := omega) only [decide_eq_true_eq, if_pos, if_neg, wrap_id, le_maxLen, and_true, true_and, if_true, ite_true]
      | refine wGd (fun hb => ?_) fun hb => ?_
    exact retO_one (by simp only [go_sem, Nat.reduceLT, Nat.reduceLeDiff, Nat.reduceEqDiff, Nat.reduceAdd, Nat.reduceMul, Nat.reduceSub, reduceCtorEq]) rfl (by simp only [go_sem, Nat.reduceLT, Nat.reduceLeDiff, Nat.reduceEqDiff, Nat.reduceAdd, Nat.reduceMul, Nat.reduceSub, reduceCtorEq]) rfl rfl
end Go.Proofs.Ytclljpdcpcolpaa
