/- What both StoreOk give. -/
import Derived.Test.YtchkbgekmoileaaSE
namespace Go.Proofs.Ytchkbgekmoileaa
open Go Go.RowKit
set_option linter.unusedVariables false
set_option linter.unusedSimpArgs false
set_option maxRecDepth 100000
set_option maxHeartbeats 4000000
attribute [local irreducible] VWP vops vdraw contV contD CallK Guard GuardV NextL Puts Runs RetOK RetQ RetO RetQO thenQ blockQ

theorem bP_iff {p : Prop} : bP p = true ↔ p := by
  constructor
  · intro h
    by_cases hp : p
    · exact hp
    · rw [bP_false hp] at h; cases h
  · exact bP_true
/-- A descriptor is as told and has only objects that there are. -/
def FitsP (n : Nat) (d : DescS) : Prop := DescP d ∧ ∀ e, d.entries[d.entries.length - 1]? = some e → e.object < n
noncomputable def headB (s : StoreD) (i : Nat) (h : HeadD) : Bool := inB h.value (-1000000000) 1000000000 && inB h.version 0 1000000 && inB h.desc (-1) ((s.descs.length : Int) - 1) &&
  (if 0 ≤ h.desc then (match s.descs[h.desc.toNat]? with | some d => decide (0 ≤ placeE d.entries i) | none => false) else true)
def StoreP (s : StoreD) : Prop := 1 ≤ s.heads.length ∧ s.heads.length ≤ 8 ∧ s.descs.length ≤ 60 ∧ (∀ d ∈ s.descs, FitsP s.heads.length d) ∧ ∀ (i : Nat) (h : HeadD), s.heads[i]? = some h → headB s i h = true
theorem last_at {n : Nat} {d : DescS} (h : DescP d) : ∃ (k : Nat) (e : EntS), (d.entries.length : Int) - 1 = k ∧ k < d.entries.length ∧ d.entries[k]? = some e ∧ (FitsP n d ↔ e.object < n) := by
  have h1 := h.2.2.2.2.1
  have h2 : d.entries.length - 1 < d.entries.length := by omega
  refine ⟨d.entries.length - 1, d.entries[d.entries.length - 1], by omega, h2, List.getElem?_eq_getElem h2, fun hf => hf.2 _ (List.getElem?_eq_getElem h2), fun hf => ⟨h, fun e he => ?_⟩⟩
  rw [List.getElem?_eq_getElem h2] at he
  cases he
  exact hf
theorem fitsStore_ok (s : StoreD) (d : DescS) (hs : s.heads.length ≤ 1048576) (hd : d.entries.length ≤ 1048576) :
    SatP Try.prog 37 [.agg (s.cells 36 40 70), .agg (d.cells 70)] (.bool (bP (FitsP s.heads.length d))) [] := by
  refine satP_of_body hT Try.func37 (by kernel_rfl) rfl (rs := [.tmp 4]) rfl (n := 22) rfl (by simp) rfl (by simp) fun E hE => ?_
  unfold St.init
  unfold StoreD.cells DescS.cells
  by_cases hp : DescP d
  · have hb0 := bP_true hp
    obtain ⟨k, e, hk, hkl, he, hiff⟩ := last_at (n := s.heads.length) hp
    have hre := rowsE_at he
    have F := And.intro hb0 (And.intro @rowsE_len (And.intro @rowsH_len (And.intro hk (And.intro hkl hre))))
    repeat' first
      | refine wSq fun _ hK => ?_
      | refine wRg ?_
      | refine wDr ?_
      | refine VWP_block ?_
      | refine VWP_skip ?_
      | refine VWP_exit ?_
      | refine VWP_ret ?_
      | (refine hK _ ?_; clear hK)
      | (clear hK; refine hK _ ?_; clear hK)
      | (clear hK; clear hK; refine hK _ ?_; clear hK)
      | (clear hK; clear hK; clear hK; refine hK _ ?_; clear hK)
      | (simp only [wHb, reduceCtorEq] at hb <;> try (exfalso; omega))
      | refine wCd (fun hb => ?_) fun hb => ?_
      | refine wCa (c := by first | exact implDescOk_ok d hd) (k := ?_)
      | simp only [go_sem, Nat.reduceLT, Nat.reduceLeDiff, Nat.reduceEqDiff, Nat.reduceAdd, Nat.reduceMul, Nat.reduceSub, reduceCtorEq, F]
      | simp (disch := omega) only [decide_eq_true_eq, if_pos, if_neg, wrap_id, le_maxLen, and_true, true_and, if_true, ite_true]
      | refine wGd (fun hb => ?_) fun hb => ?_
    all_goals refine wLf ?_
    all_goals
      by_cases h : e.object < s.heads.length
      · rw [bP_true (hiff.2 h)]; simp_all
      · rw [bP_false (fun hh => h (hiff.1 hh))]; simp_all
  · have hb0 := bP_false hp
    have F := And.intro hb0 (And.intro @rowsE_len @rowsH_len)
    repeat' first
      | refine wSq fun _ hK => ?_
      | refine wRg ?_
      | refine wDr ?_
      | refine VWP_block ?_
      | refine VWP_skip ?_
      | refine VWP_exit ?_
      | refine VWP_ret ?_
      | (refine hK _ ?_; clear hK)
      | (clear hK; refine hK _ ?_; clear hK)
      | (clear hK; clear hK; refine hK _ ?_; clear hK)
      | (clear hK; clear hK; clear hK; refine hK _ ?_; clear hK)
      | (simp only [wHb, reduceCtorEq] at hb <;> try (exfalso; omega))
      | refine wCd (fun hb => ?_) fun hb => ?_
      | refine wCa (c := by first | exact implDescOk_ok d hd) (k := ?_)
      | simp only [go_sem, Nat.reduceLT, Nat.reduceLeDiff, Nat.reduceEqDiff, Nat.reduceAdd, Nat.reduceMul, Nat.reduceSub, reduceCtorEq, F]
      | simp (disch := omega) only [decide_eq_true_eq, if_pos, if_neg, wrap_id, le_maxLen, and_true, true_and, if_true, ite_true]
      | refine wGd (fun hb => ?_) fun hb => ?_
    all_goals refine wLf ?_
    all_goals rw [bP_false fun hh => hp hh.1]
theorem bad_desc {s : StoreD} {d : DescS} (hd : d ∈ s.descs) (h : ¬ FitsP s.heads.length d) : bP (StoreP s) = false := bP_false fun hh => h (hh.2.2.2.1 d hd)
theorem bad_head {s : StoreD} {i : Nat} {h : HeadD} (hi : s.heads[i]? = some h) (hb : headB s i h = false) : bP (StoreP s) = false := bP_false fun hh => by rw [hh.2.2.2.2 i h hi] at hb; cases hb
theorem headB_neg {s : StoreD} {i : Nat} {h : HeadD} (hn : h.desc < 0) : headB s i h = (inB h.value (-1000000000) 1000000000 && inB h.version 0 1000000 && inB h.desc (-1) ((s.descs.length : Int) - 1)) := by
  unfold headB
  rw [if_neg (by omega)]
  simp
theorem headB_at {s : StoreD} {i k : Nat} {h : HeadD} {d : DescS} (hk : h.desc = k) (hd : s.descs[k]? = some d) : headB s i h = (inB h.value (-1000000000) 1000000000 && inB h.version 0 1000000 && decide (0 ≤ placeE d.entries i)) := by
  have hlt := (List.getElem?_eq_some_iff.1 hd).1
  have h1 : inB h.desc (-1) ((s.descs.length : Int) - 1) = true := by simp [inB]; omega
  unfold headB
  rw [if_pos (by omega), h1, hk, Int.toNat_natCast, hd]
  simp
theorem headB_big {s : StoreD} {i : Nat} {h : HeadD} (hn : (s.descs.length : Int) ≤ h.desc) : inB h.desc (-1) ((s.descs.length : Int) - 1) = false ∧ headB s i h = false := by
  have h1 : inB h.desc (-1) ((s.descs.length : Int) - 1) = false := by simp [inB]; omega
  refine ⟨h1, ?_⟩
  unfold headB
  rw [h1]
  simp
theorem implStoreOk_ok (s : StoreD) (hs : s.small) : SatP Try.prog 24 [.agg (s.cells 36 40 70)] (.bool (bP (StoreP s))) [] := by
  obtain ⟨f1, f2, f3⟩ := hs
  refine satP_of_body hT Try.func24 (by kernel_rfl) rfl (rs := [.tmp 2]) rfl (n := 76) rfl (by simp) rfl (by simp) fun E hE => ?_
  unfold St.init
  unfold StoreD.cells
  have hfit : ∀ d, d ∈ s.descs → SatP Try.prog 37 [.agg [.fr 36 (rowsH s.heads), .fr 40 (rowsD 70 s.descs)], .agg (d.cells 70)] (.bool (bP (FitsP s.heads.length d))) [] := fun d hd => fitsStore_ok s d f1 (f3 d hd)
  have F := And.intro @rowsH_len @rowsD_len
  repeat' first
    | refine wSq fun _ hK => ?_
    | refine wRg ?_
    | refine wDr ?_
    | refine VWP_block ?_
    | refine VWP_skip ?_
    | refine VWP_exit ?_
    | refine VWP_ret ?_
    | (refine hK _ ?_; clear hK)
    | (clear hK; refine hK _ ?_; clear hK)
    | (clear hK; clear hK; refine hK _ ?_; clear hK)
    | (clear hK; clear hK; clear hK; refine hK _ ?_; clear hK)
    | (simp only [wHb, reduceCtorEq] at hb <;> try (exfalso; omega))
    | refine wCd (fun hb => ?_) fun hb => ?_
    | refine wCa (c := by first | exact in_ok _ _ _) (k := ?_)
    | simp only [go_sem, Nat.reduceLT, Nat.reduceLeDiff, Nat.reduceEqDiff, Nat.reduceAdd, Nat.reduceMul, Nat.reduceSub, reduceCtorEq, F]
    | simp (disch := omega) only [decide_eq_true_eq, if_pos, if_neg, wrap_id, le_maxLen, and_true, true_and, if_true, ite_true]
    | refine wGd (fun hb => ?_) fun hb => ?_
  · refine wLf ?_
    have hf : inB s.heads.length 1 8 = false := by simp_all
    rw [bP_false fun h => by have h1 := h.1; have h2 := h.2.1; simp [inB] at hf; omega]
  · refine wLf ?_
    rw [bP_false fun h => by have := h.2.2.1; omega]
  have hin : inB s.heads.length 1 8 = true := by assumption
  have h60 : ¬ (60 : Int) < s.descs.length := by assumption
  refine VWP_loopL (X := Nat) (fun i => [(1, .bp 0 0), (19, .fr 40 (rowsD 70 s.descs)), (20, .int .i64 s.descs.length), (21, .int .i64 i)]) (fun _ => [(0, .box [.fr 36 (rowsH s.heads), .fr 40 (rowsD 70 s.descs)])]) (fun i => s.descs.length - i)
    (fun i => i ≤ s.descs.length ∧ ∀ (j : Nat) (d : DescS), j < i → s.descs[j]? = some d → FitsP s.heads.length d) 1 0 ⟨by simp, by simp⟩ (by simp [updV]) (by simp [updH]) (by simp) ?_
  rintro i nx ⟨hi, hdone⟩ hB
  rcases Nat.lt_or_ge i s.descs.length with hlt | hge
  · obtain ⟨d, hd⟩ : ∃ d, s.descs[i]? = some d := ⟨_, List.getElem?_eq_getElem hlt⟩
    have hre := rowsD_at (te := 70) hd
    have hm := List.mem_of_getElem? hd
    have hne : nx ≠ 0 := by omega
    have hne2 : (0 : Nat) ≠ nx := by omega
    have F := And.intro @rowsD_len (And.intro @rowsH_len (And.intro hre (And.intro @DescS.cells.eq_1 (And.intro hne hne2))))
    repeat' first
      | refine wSq fun _ hK => ?_
      | refine wRg ?_
      | refine wDr ?_
      | refine VWP_block ?_
      | refine VWP_skip ?_
      | refine VWP_exit ?_
      | refine VWP_ret ?_
      | (refine hK _ ?_; clear hK)
      | (clear hK; refine hK _ ?_; clear hK)
      | (clear hK; clear hK; refine hK _ ?_; clear hK)
      | (clear hK; clear hK; clear hK; refine hK _ ?_; clear hK)
      | (simp only [wHb, reduceCtorEq] at hb <;> try (exfalso; omega))
      | refine wCd (fun hb => ?_) fun hb => ?_
      | refine wCa (c := by first | exact hfit d hm) (k := ?_)
      | simp only [go_sem, Nat.reduceLT, Nat.reduceLeDiff, Nat.reduceEqDiff, Nat.reduceAdd, Nat.reduceMul, Nat.reduceSub, reduceCtorEq, F]
      | simp (disch := omega) only [decide_eq_true_eq, if_pos, if_neg, wrap_id, le_maxLen, and_true, true_and, if_true, ite_true]
      | refine wGd (fun hb => ?_) fun hb => ?_
    · refine wLf ?_
      rw [bad_desc hm fun hh => by rw [bP_true hh] at hb; cases hb]
    · have hw := wrap_id (x := (i : Int) + 1) (by omega)
      refine nextL (i + 1) ⟨by omega, fun j e hj he => ?_⟩ (by omega) (by simp [updV, tmL, hw]) (by simp [updH, hpL, hne2]) (by omega)
      rcases Nat.lt_or_ge j i with h | h
      · exact hdone j e h he
      · obtain rfl : j = i := by omega
        rw [hd] at he; cases he
        exact bP_iff.1 (by assumption)
  · obtain rfl : i = s.descs.length := by omega
    have F := And.intro @rowsD_len @rowsH_len
    repeat' first
      | refine wSq fun _ hK => ?_
      | refine wRg ?_
      | refine wDr ?_
      | refine VWP_block ?_
      | refine VWP_skip ?_
      | refine VWP_exit ?_
      | refine VWP_ret ?_
      | (refine hK _ ?_; clear hK)
      | (clear hK; refine hK _ ?_; clear hK)
      | (clear hK; clear hK; refine hK _ ?_; clear hK)
      | (clear hK; clear hK; clear hK; refine hK _ ?_; clear hK)
      | (simp only [wHb, reduceCtorEq] at hb <;> try (exfalso; omega))
      | refine wCd (fun hb => ?_) fun hb => ?_
      | simp only [go_sem, Nat.reduceLT, Nat.reduceLeDiff, Nat.reduceEqDiff, Nat.reduceAdd, Nat.reduceMul, Nat.reduceSub, reduceCtorEq, F]
      | simp (disch := omega) only [decide_eq_true_eq, if_pos, if_neg, wrap_id, le_maxLen, and_true, true_and, if_true, ite_true]
      | refine wGd (fun hb => ?_) fun hb => ?_
    refine VWP_loopL (X := Nat) (fun i => [(1, .bp 0 0), (31, .fr 36 (rowsH s.heads)), (32, .int .i64 s.heads.length), (33, .int .i64 i)]) (fun _ => [(0, .box [.fr 36 (rowsH s.heads), .fr 40 (rowsD 70 s.descs)])]) (fun i => s.heads.length - i)
      (fun i => i ≤ s.heads.length ∧ ∀ (j : Nat) (h : HeadD), j < i → s.heads[j]? = some h → headB s j h = true) 1 0 ⟨by simp, by simp⟩ (by simp [updV, tmL]) (by simp [updH, hpL]) (by omega) ?_
    rintro i nx2 ⟨hi, hdone2⟩ hB2
    rcases Nat.lt_or_ge i s.heads.length with hlt | hge
    · obtain ⟨h, hh⟩ : ∃ h, s.heads[i]? = some h := ⟨_, List.getElem?_eq_getElem hlt⟩
      have hre := rowsH_at hh
      have hne : nx2 ≠ 0 := by omega
      have hne2 : (0 : Nat) ≠ nx2 := by omega
      have hw := wrap_id (x := (i : Int) + 1) (by omega)
      have hno : headB s i h = false → bP (StoreP s) = false := bad_head hh
      have hyes : headB s i h = true → ∀ (j : Nat) (g : HeadD), j < i + 1 → s.heads[j]? = some g → headB s j g = true := fun hb j g hj hg => by
        rcases Nat.lt_or_ge j i with h1 | h1
        · exact hdone2 j g h1 hg
        · obtain rfl : j = i := by omega
          rw [hh] at hg; cases hg; exact hb
      have hws := wrap_id (x := (s.descs.length : Int) - 1) (by omega)
      rcases Int.lt_or_le h.desc 0 with hneg | hpos
      · rw [headB_neg hneg] at hno hyes
        have hng : ¬ 0 ≤ h.desc := by omega
        have F := And.intro @rowsD_len (And.intro @rowsH_len (And.intro hre (And.intro hne (And.intro hne2 (And.intro hws hng)))))
        repeat' first
          | refine wSq fun _ hK => ?_
          | refine wRg ?_
          | refine wDr ?_
          | refine VWP_block ?_
          | refine VWP_skip ?_
          | refine VWP_exit ?_
          | refine VWP_ret ?_
          | (refine hK _ ?_; clear hK)
          | (clear hK; refine hK _ ?_; clear hK)
          | (clear hK; clear hK; refine hK _ ?_; clear hK)
          | (clear hK; clear hK; clear hK; refine hK _ ?_; clear hK)
          | (simp only [wHb, reduceCtorEq] at hb <;> try (exfalso; omega))
          | refine wCd (fun hb => ?_) fun hb => ?_
          | refine wCa (c := by first | exact isValue_ok _ | exact isVersion_ok _ | exact in_ok _ _ _) (k := ?_)
          | simp only [go_sem, Nat.reduceLT, Nat.reduceLeDiff, Nat.reduceEqDiff, Nat.reduceAdd, Nat.reduceMul, Nat.reduceSub, reduceCtorEq, F]
          | simp (disch := omega) only [decide_eq_true_eq, if_pos, if_neg, wrap_id, le_maxLen, and_true, true_and, if_true, ite_true]
          | refine wGd (fun hb => ?_) fun hb => ?_
        all_goals first
          | (refine wLf ?_
             rw [hno (by simp_all)]
             done)
          | (refine nextL (i + 1) ⟨by omega, hyes (by simp_all)⟩ (by omega) (by simp [updV, tmL, hw]) (by simp [updH, hpL, hne2]) (by omega))
      · rcases Int.lt_or_le h.desc s.descs.length with hlt2 | hbig
        · obtain ⟨k, hk⟩ : ∃ k : Nat, h.desc = k := ⟨h.desc.toNat, by omega⟩
          obtain ⟨d, hd⟩ : ∃ d, s.descs[k]? = some d := ⟨_, List.getElem?_eq_getElem (by omega)⟩
          have hrd := rowsD_at (te := 70) hd
          rw [headB_at hk hd] at hno hyes
          have hk0 : (0 : Int) ≤ (k : Nat) := by omega
          have hkl : k < s.descs.length := by omega
          have h1 : inB k (-1) ((s.descs.length : Int) - 1) = true := by simp [inB]; omega
          have F := And.intro @rowsD_len (And.intro @rowsH_len (And.intro hre (And.intro hrd (And.intro hne (And.intro hne2 (And.intro hws (And.intro hk (And.intro hk0 (And.intro hkl h1)))))))))
          repeat' first
            | refine wSq fun _ hK => ?_
            | refine wRg ?_
            | refine wDr ?_
            | refine VWP_block ?_
            | refine VWP_skip ?_
            | refine VWP_exit ?_
            | refine VWP_ret ?_
            | (refine hK _ ?_; clear hK)
            | (clear hK; refine hK _ ?_; clear hK)
            | (clear hK; clear hK; refine hK _ ?_; clear hK)
            | (clear hK; clear hK; clear hK; refine hK _ ?_; clear hK)
            | (simp only [wHb, reduceCtorEq] at hb <;> try (exfalso; omega))
            | refine wCd (fun hb => ?_) fun hb => ?_
            | refine wCa (c := by first | exact isValue_ok _ | exact isVersion_ok _ | exact in_ok _ _ _ | exact entryAt_ok d.entries i (f3 d (List.mem_of_getElem? hd))) (k := ?_)
            | simp only [go_sem, Nat.reduceLT, Nat.reduceLeDiff, Nat.reduceEqDiff, Nat.reduceAdd, Nat.reduceMul, Nat.reduceSub, reduceCtorEq, F]
            | simp (disch := omega) only [decide_eq_true_eq, if_pos, if_neg, wrap_id, le_maxLen, and_true, true_and, if_true, ite_true]
            | refine wGd (fun hb => ?_) fun hb => ?_
          all_goals first
            | (refine wLf ?_
               rw [hno (by simp_all)]
               done)
            | (refine nextL (i + 1) ⟨by omega, hyes (by simp_all)⟩ (by omega) (by simp [updV, tmL, hw]) (by simp [updH, hpL, hne2]) (by omega))
        · obtain ⟨h1, h2⟩ := headB_big (s := s) (i := i) hbig
          have hno := hno h2
          clear hyes
          have F := And.intro @rowsD_len (And.intro @rowsH_len (And.intro hre (And.intro hne (And.intro hne2 (And.intro hws h1)))))
          repeat' first
            | refine wSq fun _ hK => ?_
            | refine wRg ?_
            | refine wDr ?_
            | refine VWP_block ?_
            | refine VWP_skip ?_
            | refine VWP_exit ?_
            | refine VWP_ret ?_
            | (refine hK _ ?_; clear hK)
            | (clear hK; refine hK _ ?_; clear hK)
            | (clear hK; clear hK; refine hK _ ?_; clear hK)
            | (clear hK; clear hK; clear hK; refine hK _ ?_; clear hK)
            | (simp only [wHb, reduceCtorEq] at hb <;> try (exfalso; omega))
            | refine wCd (fun hb => ?_) fun hb => ?_
            | refine wCa (c := by first | exact isValue_ok _ | exact isVersion_ok _ | exact in_ok _ _ _) (k := ?_)
            | simp only [go_sem, Nat.reduceLT, Nat.reduceLeDiff, Nat.reduceEqDiff, Nat.reduceAdd, Nat.reduceMul, Nat.reduceSub, reduceCtorEq, F]
            | simp (disch := omega) only [decide_eq_true_eq, if_pos, if_neg, wrap_id, le_maxLen, and_true, true_and, if_true, ite_true]
            | refine wGd (fun hb => ?_) fun hb => ?_
          all_goals refine wLf ?_
          all_goals rw [hno]
    · obtain rfl : i = s.heads.length := by omega
      have F := And.intro @rowsD_len @rowsH_len
      repeat' first
        | refine wSq fun _ hK => ?_
        | refine wRg ?_
        | refine wDr ?_
        | refine VWP_block ?_
        | refine VWP_skip ?_
        | refine VWP_exit ?_
        | refine VWP_ret ?_
        | (refine hK _ ?_; clear hK)
        | (clear hK; refine hK _ ?_; clear hK)
        | (clear hK; clear hK; refine hK _ ?_; clear hK)
        | (clear hK; clear hK; clear hK; refine hK _ ?_; clear hK)
        | (simp only [wHb, reduceCtorEq] at hb <;> try (exfalso; omega))
        | refine wCd (fun hb => ?_) fun hb => ?_
        | simp only [go_sem, Nat.reduceLT, Nat.reduceLeDiff, Nat.reduceEqDiff, Nat.reduceAdd, Nat.reduceMul, Nat.reduceSub, reduceCtorEq, F]
        | simp (disch := omega) only [decide_eq_true_eq, if_pos, if_neg, wrap_id, le_maxLen, and_true, true_and, if_true, ite_true]
        | refine wGd (fun hb => ?_) fun hb => ?_
      refine wLf ?_
      rw [bP_true]
      refine ⟨by simp [inB] at hin; omega, by simp [inB] at hin; omega, by omega, fun d hd => ?_, fun j h hj => hdone2 j h (List.getElem?_eq_some_iff.1 hj).1 hj⟩
      obtain ⟨j, hj⟩ := List.getElem?_of_mem hd
      exact hdone j d (List.getElem?_eq_some_iff.1 hj).1 hj
end Go.Proofs.Ytchkbgekmoileaa
