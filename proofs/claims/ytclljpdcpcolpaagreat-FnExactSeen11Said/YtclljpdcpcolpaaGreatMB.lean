/- What both Seen11 give, and the law on values. -/
import Derived.Test.YtclljpdcpcolpaaGreatKJ
import Derived.Test.YtclljpdcpcolpaaGreatZC
import Derived.Test.YtclljpdcpcolpaaGreatVS
namespace Go.Proofs.YtclljpdcpcolpaaGreat
open Go Go.RowKit
set_option linter.unusedVariables false
set_option linter.unusedSimpArgs false
set_option maxRecDepth 100000
set_option maxHeartbeats 4000000
attribute [local irreducible] VWP vops vdraw contV contD CallK Guard GuardV NextL Puts Runs RetOK RetQ RetO RetQO thenQ blockQ
attribute [local irreducible] NextB

/-- What is seen of an object. -/
def seenV (s : StoreD) (i : Nat) (h : HeadD) : Int := if 0 ≤ h.desc then (match s.descs[h.desc.toNat]? with
  | some d => if d.status = 1 then newVE d.entries i h.value else h.value
  | none => h.value) else h.value
def seenN (s : StoreD) (i : Nat) : List Int := (List.range i).map fun (j : Nat) => match s.heads[j]? with
  | some h => seenV s j h
  | none => 0
noncomputable def seenR (w : WorldD) : List Int × Bool := if bP (WorldP w) = true then (seenN w.store w.store.heads.length, true) else ([], false)
theorem seenN_len (s : StoreD) (i : Nat) : (seenN s i).length = i := by simp [seenN]
theorem seenN_succ {s : StoreD} {i : Nat} {h : HeadD} (hh : s.heads[i]? = some h) : seenN s (i + 1) = seenN s i ++ [seenV s i h] := by
  unfold seenN
  rw [List.range_succ, List.map_append]
  simp [hh]
theorem seenV_no {s : StoreD} {i : Nat} {h : HeadD} (hn : ¬ 0 ≤ h.desc) : seenV s i h = h.value := by rw [seenV, if_neg hn]
theorem seenV_at {s : StoreD} {i k : Nat} {h : HeadD} {d : DescS} (hk : h.desc = k) (hd : s.descs[k]? = some d) : seenV s i h = if d.status = 1 then newVE d.entries i h.value else h.value := by
  rw [seenV, if_pos (by omega), hk, Int.toNat_natCast, hd]
theorem rowsN_two (w : List Int) (f : Int) : rowsN w ++ [[.int .i64 f]] = rowsN (w ++ [f]) := by simp [rowsN, encN]
theorem rowsNl_take {w : List Int} {i : Nat} (h : w.length = i) : (rowsN w).take i = rowsN w := by rw [← h, rowsN_take]
theorem lies_at {s : StoreD} (hS : StoreP s) {i k : Nat} {h : HeadD} (hh : s.heads[i]? = some h) (hk : h.desc = k) : ∃ d, s.descs[k]? = some d ∧ ∃ (p : Nat) (e : EntS), placeE d.entries i = p ∧ d.entries[p]? = some e ∧ openedI d.entries i = p := by
  have hb := hS.2.2.2.2 i h hh
  have hlt : k < s.descs.length := by
    have h2 := hb
    unfold headB at h2
    simp only [Bool.and_eq_true] at h2
    have h3 := h2.1.2
    simp [inB] at h3
    omega
  obtain ⟨d, hd⟩ : ∃ d, s.descs[k]? = some d := ⟨_, List.getElem?_eq_getElem hlt⟩
  rw [headB_at hk hd] at hb
  simp only [Bool.and_eq_true, decide_eq_true_eq] at hb
  have hp := hb.2
  refine ⟨d, hd, ?_⟩
  rcases placeE_cases d.entries i with ⟨h1, _⟩ | ⟨p, e, h1, h2, _, _⟩
  · omega
  · have hf := hS.2.2.2.1 d (List.mem_of_getElem? hd)
    have hD := hf.1
    have hO : OpenP d.entries := by
      refine ⟨fun j f hj => ⟨hD.2.1 j f hj, fun m g hm hg => ?_⟩, hD.2.2.2.2.2⟩
      have := sorted_lt2 hD.1 hm hg hj
      omega
    exact ⟨p, e, h1, h2, by rw [openedI, bP_true hO, if_pos rfl, h1]⟩
theorem implSeen_ok (w : WorldD) (r : List Int × Bool) (hr : seenR w = r) (hs : w.tiny) : SatP Tryz.prog 16 [.agg (w.cells 3 67 70 72 91 120 137 55)] (.tup [.rf 0 r.1.length, .bool r.2]) [(3, rowsN r.1)] := by
  have hc := implWorldOk_ok w hs
  have f2 := hs.2.1.small.2.2
  have f1 := hs.2.1.1
  refine satP_of_body hT Tryz.func16 (by kernel_rfl) rfl (rs := [.tmp 2, .tmp 3]) rfl (n := 53) rfl (by simp) rfl (by simpa using rowsN_pur r.1) fun E => ?_
  unfold St.init
  unfold WorldD.cells at *
  rcases (Bool.eq_false_or_eq_true (bP (WorldP w))).symm with hp | hp
  · rw [hp] at hc
    rw [seenR, if_neg (by rw [hp]; exact fun h => nomatch h)] at hr
    subst hr
    repeat' first
      | refine VWP_seq_k fun _ hK => ?_
      | refine VWP_region_k hT ?_
      | refine VWP_draw_k hT hM (by kernel_rfl) rfl ?_
      | refine VWP_block ?_
      | refine VWP_skip ?_
      | refine VWP_exit ?_
      | refine VWP_ret ?_
      | (refine hK _ ?_; clear hK)
      | (clear hK; refine hK _ ?_; clear hK)
      | (clear hK; clear hK; refine hK _ ?_; clear hK)
      | (clear hK; clear hK; clear hK; refine hK _ ?_; clear hK)
      | (simp only [decide_eq_true_eq, decide_eq_false_iff_not, bne_iff_ne, ne_eq, Bool.not_eq_true', Bool.not_eq_false', Bool.true_eq_false, Bool.false_eq_true, reduceCtorEq, not_true_eq_false, eq_self] at hb <;> try (exfalso; omega))
      | refine VWP_cond2 _ (by simp only [go_sem, Nat.reduceLT, Nat.reduceLeDiff, Nat.reduceEqDiff, Nat.reduceAdd, Nat.reduceMul, Nat.reduceSub, reduceCtorEq]; rfl) (fun hb => ?_) (fun hb => ?_)
      | refine callK (by simp only [go_sem, Nat.reduceLT, Nat.reduceLeDiff, Nat.reduceEqDiff, Nat.reduceAdd, Nat.reduceMul, Nat.reduceSub, reduceCtorEq, List.mem_cons, List.not_mem_nil, or_false, forall_eq_or_imp, forall_eq, frzOk, frzOkC]; try simp) (args' := _) (by simp only [go_sem, Nat.reduceLT, Nat.reduceLeDiff, Nat.reduceEqDiff, Nat.reduceAdd, Nat.reduceMul, Nat.reduceSub, reduceCtorEq, frzA, frzC]; try rfl) (by first | exact hc) (by simp only [go_sem, Nat.reduceLT, Nat.reduceLeDiff, Nat.reduceEqDiff, Nat.reduceAdd, Nat.reduceMul, Nat.reduceSub, reduceCtorEq]; try simp) (by decide) ?_
      | simp only [go_sem, Nat.reduceLT, Nat.reduceLeDiff, Nat.reduceEqDiff, Nat.reduceAdd, Nat.reduceMul, Nat.reduceSub, reduceCtorEq]
      | simp (disch := omega) only [decide_eq_true_eq, if_pos, if_neg, wrap_id, le_maxLen, and_true, true_and, if_true, ite_true]
      | refine guard_split (by simp only [go_sem, Nat.reduceLT, Nat.reduceLeDiff, Nat.reduceEqDiff, Nat.reduceAdd, Nat.reduceMul, Nat.reduceSub, reduceCtorEq]) rfl (fun hb => ?_) (fun hb => ?_)
    refine ret_mk (vs := _) (acc := _) (by simp only [go_sem, Nat.reduceLT, Nat.reduceLeDiff, Nat.reduceEqDiff, Nat.reduceAdd, Nat.reduceMul, Nat.reduceSub, reduceCtorEq, vres]; rfl) (by simp only [go_sem, Nat.reduceLT, Nat.reduceLeDiff, Nat.reduceEqDiff, Nat.reduceAdd, Nat.reduceMul, Nat.reduceSub, reduceCtorEq, wrap, exV, exAs, exA, exCs, exC]; rfl) (by simp) (by simp [rowsN]) (by simp [rowsN_pur])
  · rw [hp] at hc
    have hS := (bP_iff.1 hp).2.1
    rw [seenR, if_pos hp] at hr
    subst hr
    rw [seenN_len]
    repeat' first
      | refine VWP_seq_k fun _ hK => ?_
      | refine VWP_region_k hT ?_
      | refine VWP_draw_k hT hM (by kernel_rfl) rfl ?_
      | refine VWP_block ?_
      | refine VWP_skip ?_
      | refine VWP_exit ?_
      | refine VWP_ret ?_
      | (refine hK _ ?_; clear hK)
      | (clear hK; refine hK _ ?_; clear hK)
      | (clear hK; clear hK; refine hK _ ?_; clear hK)
      | (clear hK; clear hK; clear hK; refine hK _ ?_; clear hK)
      | (simp only [decide_eq_true_eq, decide_eq_false_iff_not, bne_iff_ne, ne_eq, Bool.not_eq_true', Bool.not_eq_false', Bool.true_eq_false, Bool.false_eq_true, reduceCtorEq, not_true_eq_false, eq_self] at hb <;> try (exfalso; omega))
      | refine VWP_cond2 _ (by simp only [go_sem, Nat.reduceLT, Nat.reduceLeDiff, Nat.reduceEqDiff, Nat.reduceAdd, Nat.reduceMul, Nat.reduceSub, reduceCtorEq, rowsH_len]; rfl) (fun hb => ?_) (fun hb => ?_)
      | refine callK (by simp only [go_sem, Nat.reduceLT, Nat.reduceLeDiff, Nat.reduceEqDiff, Nat.reduceAdd, Nat.reduceMul, Nat.reduceSub, reduceCtorEq, rowsH_len, List.mem_cons, List.not_mem_nil, or_false, forall_eq_or_imp, forall_eq, frzOk, frzOkC]; try simp) (args' := _) (by simp only [go_sem, Nat.reduceLT, Nat.reduceLeDiff, Nat.reduceEqDiff, Nat.reduceAdd, Nat.reduceMul, Nat.reduceSub, reduceCtorEq, rowsH_len, frzA, frzC]; try rfl) (by first | exact hc) (by simp only [go_sem, Nat.reduceLT, Nat.reduceLeDiff, Nat.reduceEqDiff, Nat.reduceAdd, Nat.reduceMul, Nat.reduceSub, reduceCtorEq, rowsH_len]; try simp) (by decide) ?_
      | simp only [go_sem, Nat.reduceLT, Nat.reduceLeDiff, Nat.reduceEqDiff, Nat.reduceAdd, Nat.reduceMul, Nat.reduceSub, reduceCtorEq, rowsH_len]
      | simp (disch := omega) only [decide_eq_true_eq, if_pos, if_neg, wrap_id, le_maxLen, and_true, true_and, if_true, ite_true]
      | refine guard_split (by simp only [go_sem, Nat.reduceLT, Nat.reduceLeDiff, Nat.reduceEqDiff, Nat.reduceAdd, Nat.reduceMul, Nat.reduceSub, reduceCtorEq, rowsH_len]) rfl (fun hb => ?_) (fun hb => ?_)
    refine VWP_loopB (X := Nat × Nat) (fun x => [(1, .bp 0 0), (4, .rf x.2 x.1), (14, .fr 67 (rowsH w.store.heads)), (15, .int .i64 w.store.heads.length), (16, .int .i64 x.1)]) (fun x => [(0, .box [.fr 3 (rowsN w.first), .fr 67 (rowsH w.store.heads), .fr 70 (rowsD 72 w.store.descs), .fr 91 (rowsTh 120 72 137 w.threads), .fr 55 (rowsV w.log)]), (x.2, .root 3 (rowsN (seenN w.store x.1)))]) (fun x => w.store.heads.length - x.1)
      (fun x => x.1 ≤ w.store.heads.length ∧ 1 ≤ x.2) (fun x => x.2 + 1) (0, 1) ⟨by simp, by simp⟩ (by simp [updV]) (by simp [updH, seenN, rowsN]) (by simp) ?_
    rintro ⟨i, T⟩ nx ⟨hi, hTg⟩ hB
    simp only at hi hTg hB
    have hne0 : (0 : Nat) ≠ T := by omega
    have hne1 : T ≠ 0 := by omega
    have hw := wrap_id (x := (i : Int) + 1) (by omega)
    rcases Nat.lt_or_ge i w.store.heads.length with hlt | hge
    · obtain ⟨h, hh⟩ : ∃ h, w.store.heads[i]? = some h := ⟨_, List.getElem?_eq_getElem hlt⟩
      have hre := rowsH_at hh
      have n0 : nx ≠ 0 := by omega
      have m0 : (0 : Nat) ≠ nx := by omega
      have n1 : nx ≠ T := by omega
      have m1 : T ≠ nx := by omega
      have n2 : nx + 1 ≠ T := by omega
      have m2 : T ≠ nx + 1 := by omega
      have n3 : nx + 1 + 1 ≠ T := by omega
      have m3 : T ≠ nx + 1 + 1 := by omega
      have hln : (rowsN (seenN w.store i)).length = i := by rw [rowsN_len, seenN_len]
      have ht := rowsNl_take (seenN_len w.store i)
      have ho := rowsN_two (seenN w.store i) (seenV w.store i h)
      have hsu := seenN_succ hh
      rcases Int.lt_or_le h.desc 0 with hng | hps
      · have hnn : ¬ 0 ≤ h.desc := by omega
        rw [seenV_no hnn] at ho hsu
        have F := (And.intro hre (And.intro hnn (And.intro hne0 (And.intro hne1 (And.intro n0 (And.intro m0 (And.intro n1 (And.intro m1 (And.intro n2 (And.intro m2 (And.intro n3 (And.intro m3 (And.intro hln (And.intro ht ho))))))))))))))
        repeat' first
          | refine VWP_seq_k fun _ hK => ?_
          | refine VWP_region_k hT ?_
          | refine VWP_draw_k hT hM (by kernel_rfl) rfl ?_
          | refine VWP_block ?_
          | refine VWP_skip ?_
          | refine VWP_exit ?_
          | refine VWP_ret ?_
          | (refine hK _ ?_; clear hK)
          | (clear hK; refine hK _ ?_; clear hK)
          | (clear hK; clear hK; refine hK _ ?_; clear hK)
          | (clear hK; clear hK; clear hK; refine hK _ ?_; clear hK)
          | (simp only [decide_eq_true_eq, decide_eq_false_iff_not, bne_iff_ne, ne_eq, Bool.not_eq_true', Bool.not_eq_false', Bool.true_eq_false, Bool.false_eq_true, reduceCtorEq, not_true_eq_false, eq_self] at hb <;> try (exfalso; omega))
          | refine VWP_cond2 _ (by simp only [go_sem, Nat.reduceLT, Nat.reduceLeDiff, Nat.reduceEqDiff, Nat.reduceAdd, Nat.reduceMul, Nat.reduceSub, reduceCtorEq, rowsH_len, Nat.le_refl, F]; rfl) (fun hb => ?_) (fun hb => ?_)
          | simp only [go_sem, Nat.reduceLT, Nat.reduceLeDiff, Nat.reduceEqDiff, Nat.reduceAdd, Nat.reduceMul, Nat.reduceSub, reduceCtorEq, rowsH_len, Nat.le_refl, F]
          | simp (disch := omega) only [decide_eq_true_eq, if_pos, if_neg, wrap_id, le_maxLen, and_true, true_and, if_true, ite_true]
          | refine guard_split (by simp only [go_sem, Nat.reduceLT, Nat.reduceLeDiff, Nat.reduceEqDiff, Nat.reduceAdd, Nat.reduceMul, Nat.reduceSub, reduceCtorEq, rowsH_len, Nat.le_refl, F]) rfl (fun hb => ?_) (fun hb => ?_)
        refine nextB (i + 1, nx + 1 + 1) ⟨by simp only; omega, by simp only; omega⟩ (by simp only; omega) ?_ ?_ (by first | omega | (simp; try omega))
        · simp [updV, tmL, hw]
        · simp [updH, hpL, hsu, hne0, m0, n0, n1, m1, n2, m2, n3, m3]
          try omega
      · obtain ⟨k, hk⟩ : ∃ k : Nat, h.desc = k := ⟨h.desc.toNat, by omega⟩
        have hk0 : (0 : Int) ≤ (k : Nat) := by omega
        obtain ⟨d, hd, p, e, hpl, hpe, hop⟩ := lies_at hS hh hk
        have hkl := (List.getElem?_eq_some_iff.1 hd).1
        have hrd := rowsD_at (te := 72) hd
        have hde := f2 d (List.mem_of_getElem? hd)
        have hv := seenV_at (i := i) hk hd
        rw [hk] at hre
        by_cases hst : d.status = 1
        · rw [if_pos hst] at hv
          rw [hv] at ho hsu
          rw [hst] at hrd
          have hnv := newValue_ok d i h.value hde
          unfold DescS.cells at hnv
          rw [hst] at hnv
          have F := (And.intro hre (And.intro hrd (And.intro hk0 (And.intro hkl (And.intro hne0 (And.intro hne1 (And.intro n0 (And.intro m0 (And.intro n1 (And.intro m1 (And.intro n2 (And.intro m2 (And.intro n3 (And.intro m3 (And.intro hln (And.intro ht ho))))))))))))))))
          repeat' first
            | refine VWP_seq_k fun _ hK => ?_
            | refine VWP_region_k hT ?_
            | refine VWP_draw_k hT hM (by kernel_rfl) rfl ?_
            | refine VWP_block ?_
            | refine VWP_skip ?_
            | refine VWP_exit ?_
            | refine VWP_ret ?_
            | (refine hK _ ?_; clear hK)
            | (clear hK; refine hK _ ?_; clear hK)
            | (clear hK; clear hK; refine hK _ ?_; clear hK)
            | (clear hK; clear hK; clear hK; refine hK _ ?_; clear hK)
            | (simp only [decide_eq_true_eq, decide_eq_false_iff_not, bne_iff_ne, ne_eq, Bool.not_eq_true', Bool.not_eq_false', Bool.true_eq_false, Bool.false_eq_true, reduceCtorEq, not_true_eq_false, eq_self] at hb <;> try (exfalso; omega))
            | refine VWP_cond2 _ (by simp only [go_sem, Nat.reduceLT, Nat.reduceLeDiff, Nat.reduceEqDiff, Nat.reduceAdd, Nat.reduceMul, Nat.reduceSub, reduceCtorEq, rowsH_len, rowsD_len, Nat.le_refl, Int.reduceBEq, F]; rfl) (fun hb => ?_) (fun hb => ?_)
            | refine callK (by simp only [go_sem, Nat.reduceLT, Nat.reduceLeDiff, Nat.reduceEqDiff, Nat.reduceAdd, Nat.reduceMul, Nat.reduceSub, reduceCtorEq, rowsH_len, rowsD_len, Nat.le_refl, Int.reduceBEq, F, List.mem_cons, List.not_mem_nil, or_false, forall_eq_or_imp, forall_eq, frzOk, frzOkC]; try simp) (args' := _) (by simp only [go_sem, Nat.reduceLT, Nat.reduceLeDiff, Nat.reduceEqDiff, Nat.reduceAdd, Nat.reduceMul, Nat.reduceSub, reduceCtorEq, rowsH_len, rowsD_len, Nat.le_refl, Int.reduceBEq, F, frzA, frzC]; try rfl) (by first | exact hnv) (by simp only [go_sem, Nat.reduceLT, Nat.reduceLeDiff, Nat.reduceEqDiff, Nat.reduceAdd, Nat.reduceMul, Nat.reduceSub, reduceCtorEq, rowsH_len, rowsD_len, Nat.le_refl, Int.reduceBEq, F]; try simp) (by decide) ?_
            | simp only [go_sem, Nat.reduceLT, Nat.reduceLeDiff, Nat.reduceEqDiff, Nat.reduceAdd, Nat.reduceMul, Nat.reduceSub, reduceCtorEq, rowsH_len, rowsD_len, Nat.le_refl, Int.reduceBEq, F]
            | simp (disch := omega) only [decide_eq_true_eq, if_pos, if_neg, wrap_id, le_maxLen, and_true, true_and, if_true, ite_true]
            | refine guard_split (by simp only [go_sem, Nat.reduceLT, Nat.reduceLeDiff, Nat.reduceEqDiff, Nat.reduceAdd, Nat.reduceMul, Nat.reduceSub, reduceCtorEq, rowsH_len, rowsD_len, Nat.le_refl, Int.reduceBEq, F]) rfl (fun hb => ?_) (fun hb => ?_)
          refine nextB (i + 1, nx + 1 + 1) ⟨by simp only; omega, by simp only; omega⟩ (by simp only; omega) ?_ ?_ (by first | omega | (simp; try omega))
          · simp [updV, tmL, hw]
          · simp [updH, hpL, hsu, hne0, m0, n0, n1, m1, n2, m2, n3, m3]
            try omega
        · have hsq : (d.status == 1) = false := by simpa using hst
          rw [if_neg hst] at hv
          rw [hv] at ho hsu
          have F := (And.intro hre (And.intro hrd (And.intro hk0 (And.intro hkl (And.intro hsq (And.intro hne0 (And.intro hne1 (And.intro n0 (And.intro m0 (And.intro n1 (And.intro m1 (And.intro n2 (And.intro m2 (And.intro n3 (And.intro m3 (And.intro hln (And.intro ht ho)))))))))))))))))
          repeat' first
            | refine VWP_seq_k fun _ hK => ?_
            | refine VWP_region_k hT ?_
            | refine VWP_draw_k hT hM (by kernel_rfl) rfl ?_
            | refine VWP_block ?_
            | refine VWP_skip ?_
            | refine VWP_exit ?_
            | refine VWP_ret ?_
            | (refine hK _ ?_; clear hK)
            | (clear hK; refine hK _ ?_; clear hK)
            | (clear hK; clear hK; refine hK _ ?_; clear hK)
            | (clear hK; clear hK; clear hK; refine hK _ ?_; clear hK)
            | (simp only [decide_eq_true_eq, decide_eq_false_iff_not, bne_iff_ne, ne_eq, Bool.not_eq_true', Bool.not_eq_false', Bool.true_eq_false, Bool.false_eq_true, reduceCtorEq, not_true_eq_false, eq_self] at hb <;> try (exfalso; omega))
            | refine VWP_cond2 _ (by simp only [go_sem, Nat.reduceLT, Nat.reduceLeDiff, Nat.reduceEqDiff, Nat.reduceAdd, Nat.reduceMul, Nat.reduceSub, reduceCtorEq, rowsH_len, rowsD_len, Nat.le_refl, F]; rfl) (fun hb => ?_) (fun hb => ?_)
            | simp only [go_sem, Nat.reduceLT, Nat.reduceLeDiff, Nat.reduceEqDiff, Nat.reduceAdd, Nat.reduceMul, Nat.reduceSub, reduceCtorEq, rowsH_len, rowsD_len, Nat.le_refl, F]
            | simp (disch := omega) only [decide_eq_true_eq, if_pos, if_neg, wrap_id, le_maxLen, and_true, true_and, if_true, ite_true]
            | refine guard_split (by simp only [go_sem, Nat.reduceLT, Nat.reduceLeDiff, Nat.reduceEqDiff, Nat.reduceAdd, Nat.reduceMul, Nat.reduceSub, reduceCtorEq, rowsH_len, rowsD_len, Nat.le_refl, F]) rfl (fun hb => ?_) (fun hb => ?_)
          refine nextB (i + 1, nx + 1 + 1) ⟨by simp only; omega, by simp only; omega⟩ (by simp only; omega) ?_ ?_ (by first | omega | (simp; try omega))
          · simp [updV, tmL, hw]
          · simp [updH, hpL, hsu, hne0, m0, n0, n1, m1, n2, m2, n3, m3]
            try omega
    · obtain rfl : i = w.store.heads.length := by omega
      repeat' first
        | refine VWP_seq_k fun _ hK => ?_
        | refine VWP_region_k hT ?_
        | refine VWP_draw_k hT hM (by kernel_rfl) rfl ?_
        | refine VWP_block ?_
        | refine VWP_skip ?_
        | refine VWP_exit ?_
        | refine VWP_ret ?_
        | (refine hK _ ?_; clear hK)
        | (clear hK; refine hK _ ?_; clear hK)
        | (clear hK; clear hK; refine hK _ ?_; clear hK)
        | (clear hK; clear hK; clear hK; refine hK _ ?_; clear hK)
        | (simp only [decide_eq_true_eq, decide_eq_false_iff_not, bne_iff_ne, ne_eq, Bool.not_eq_true', Bool.not_eq_false', Bool.true_eq_false, Bool.false_eq_true, reduceCtorEq, not_true_eq_false, eq_self] at hb <;> try (exfalso; omega))
        | refine VWP_cond2 _ (by simp only [go_sem, Nat.reduceLT, Nat.reduceLeDiff, Nat.reduceEqDiff, Nat.reduceAdd, Nat.reduceMul, Nat.reduceSub, reduceCtorEq, rowsH_len, hne0, hne1]; rfl) (fun hb => ?_) (fun hb => ?_)
        | simp only [go_sem, Nat.reduceLT, Nat.reduceLeDiff, Nat.reduceEqDiff, Nat.reduceAdd, Nat.reduceMul, Nat.reduceSub, reduceCtorEq, rowsH_len, hne0, hne1]
        | simp (disch := omega) only [decide_eq_true_eq, if_pos, if_neg, wrap_id, le_maxLen, and_true, true_and, if_true, ite_true]
        | refine guard_split (by simp only [go_sem, Nat.reduceLT, Nat.reduceLeDiff, Nat.reduceEqDiff, Nat.reduceAdd, Nat.reduceMul, Nat.reduceSub, reduceCtorEq, rowsH_len, hne0, hne1]) rfl (fun hb => ?_) (fun hb => ?_)
      exact ret_rfs (T := T) (by simp only [go_sem, Nat.reduceLT, Nat.reduceLeDiff, Nat.reduceEqDiff, Nat.reduceAdd, Nat.reduceMul, Nat.reduceSub, reduceCtorEq, hne0, hne1]; try simp) (by simp only [go_sem, Nat.reduceLT, Nat.reduceLeDiff, Nat.reduceEqDiff, Nat.reduceAdd, Nat.reduceMul, Nat.reduceSub, reduceCtorEq]; try rfl) rfl (by simp only [go_sem, Nat.reduceLT, Nat.reduceLeDiff, Nat.reduceEqDiff, Nat.reduceAdd, Nat.reduceMul, Nat.reduceSub, reduceCtorEq, hne0, hne1]; try rfl) rfl (by rw [rowsN_len, seenN_len]) (rowsN_pur _)
theorem specSeen_ok (w : WorldD) (r : List Int × Bool) (hr : seenR w = r) (hs : w.tiny) : SatP Tryz.prog 15 [.agg (w.cells 3 67 70 72 91 120 137 55)] (.tup [.rf 0 r.1.length, .bool r.2]) [(3, rowsN r.1)] := by
  have hc := specWorldOk_ok w hs
  have f2 := hs.2.1.small.2.2
  have f1 := hs.2.1.1
  refine satP_of_body hT Tryz.func15 (by kernel_rfl) rfl (rs := [.tmp 2, .tmp 3]) rfl (n := 73) rfl (by simp) rfl (by simpa using rowsN_pur r.1) fun E => ?_
  unfold St.init
  unfold WorldD.cells at *
  rcases (Bool.eq_false_or_eq_true (bP (WorldP w))).symm with hp | hp
  · rw [hp] at hc
    rw [seenR, if_neg (by rw [hp]; exact fun h => nomatch h)] at hr
    subst hr
    repeat' first
      | refine VWP_seq_k fun _ hK => ?_
      | refine VWP_region_k hT ?_
      | refine VWP_draw_k hT hM (by kernel_rfl) rfl ?_
      | refine VWP_block ?_
      | refine VWP_skip ?_
      | refine VWP_exit ?_
      | refine VWP_ret ?_
      | (refine hK _ ?_; clear hK)
      | (clear hK; refine hK _ ?_; clear hK)
      | (clear hK; clear hK; refine hK _ ?_; clear hK)
      | (clear hK; clear hK; clear hK; refine hK _ ?_; clear hK)
      | (simp only [decide_eq_true_eq, decide_eq_false_iff_not, bne_iff_ne, ne_eq, Bool.not_eq_true', Bool.not_eq_false', Bool.true_eq_false, Bool.false_eq_true, reduceCtorEq, not_true_eq_false, eq_self] at hb <;> try (exfalso; omega))
      | refine VWP_cond2 _ (by simp only [go_sem, Nat.reduceLT, Nat.reduceLeDiff, Nat.reduceEqDiff, Nat.reduceAdd, Nat.reduceMul, Nat.reduceSub, reduceCtorEq]; rfl) (fun hb => ?_) (fun hb => ?_)
      | refine callK (by simp only [go_sem, Nat.reduceLT, Nat.reduceLeDiff, Nat.reduceEqDiff, Nat.reduceAdd, Nat.reduceMul, Nat.reduceSub, reduceCtorEq, List.mem_cons, List.not_mem_nil, or_false, forall_eq_or_imp, forall_eq, frzOk, frzOkC]; try simp) (args' := _) (by simp only [go_sem, Nat.reduceLT, Nat.reduceLeDiff, Nat.reduceEqDiff, Nat.reduceAdd, Nat.reduceMul, Nat.reduceSub, reduceCtorEq, frzA, frzC]; try rfl) (by first | exact hc) (by simp only [go_sem, Nat.reduceLT, Nat.reduceLeDiff, Nat.reduceEqDiff, Nat.reduceAdd, Nat.reduceMul, Nat.reduceSub, reduceCtorEq]; try simp) (by decide) ?_
      | simp only [go_sem, Nat.reduceLT, Nat.reduceLeDiff, Nat.reduceEqDiff, Nat.reduceAdd, Nat.reduceMul, Nat.reduceSub, reduceCtorEq]
      | simp (disch := omega) only [decide_eq_true_eq, if_pos, if_neg, wrap_id, le_maxLen, and_true, true_and, if_true, ite_true]
      | refine guard_split (by simp only [go_sem, Nat.reduceLT, Nat.reduceLeDiff, Nat.reduceEqDiff, Nat.reduceAdd, Nat.reduceMul, Nat.reduceSub, reduceCtorEq]) rfl (fun hb => ?_) (fun hb => ?_)
    refine ret_mk (vs := _) (acc := _) (by simp only [go_sem, Nat.reduceLT, Nat.reduceLeDiff, Nat.reduceEqDiff, Nat.reduceAdd, Nat.reduceMul, Nat.reduceSub, reduceCtorEq, vres]; rfl) (by simp only [go_sem, Nat.reduceLT, Nat.reduceLeDiff, Nat.reduceEqDiff, Nat.reduceAdd, Nat.reduceMul, Nat.reduceSub, reduceCtorEq, wrap, exV, exAs, exA, exCs, exC]; rfl) (by simp) (by simp [rowsN]) (by simp [rowsN_pur])
  · rw [hp] at hc
    have hS := (bP_iff.1 hp).2.1
    rw [seenR, if_pos hp] at hr
    subst hr
    rw [seenN_len]
    repeat' first
      | refine VWP_seq_k fun _ hK => ?_
      | refine VWP_region_k hT ?_
      | refine VWP_draw_k hT hM (by kernel_rfl) rfl ?_
      | refine VWP_block ?_
      | refine VWP_skip ?_
      | refine VWP_exit ?_
      | refine VWP_ret ?_
      | (refine hK _ ?_; clear hK)
      | (clear hK; refine hK _ ?_; clear hK)
      | (clear hK; clear hK; refine hK _ ?_; clear hK)
      | (clear hK; clear hK; clear hK; refine hK _ ?_; clear hK)
      | (simp only [decide_eq_true_eq, decide_eq_false_iff_not, bne_iff_ne, ne_eq, Bool.not_eq_true', Bool.not_eq_false', Bool.true_eq_false, Bool.false_eq_true, reduceCtorEq, not_true_eq_false, eq_self] at hb <;> try (exfalso; omega))
      | refine VWP_cond2 _ (by simp only [go_sem, Nat.reduceLT, Nat.reduceLeDiff, Nat.reduceEqDiff, Nat.reduceAdd, Nat.reduceMul, Nat.reduceSub, reduceCtorEq, rowsH_len]; rfl) (fun hb => ?_) (fun hb => ?_)
      | refine callK (by simp only [go_sem, Nat.reduceLT, Nat.reduceLeDiff, Nat.reduceEqDiff, Nat.reduceAdd, Nat.reduceMul, Nat.reduceSub, reduceCtorEq, rowsH_len, List.mem_cons, List.not_mem_nil, or_false, forall_eq_or_imp, forall_eq, frzOk, frzOkC]; try simp) (args' := _) (by simp only [go_sem, Nat.reduceLT, Nat.reduceLeDiff, Nat.reduceEqDiff, Nat.reduceAdd, Nat.reduceMul, Nat.reduceSub, reduceCtorEq, rowsH_len, frzA, frzC]; try rfl) (by first | exact hc) (by simp only [go_sem, Nat.reduceLT, Nat.reduceLeDiff, Nat.reduceEqDiff, Nat.reduceAdd, Nat.reduceMul, Nat.reduceSub, reduceCtorEq, rowsH_len]; try simp) (by decide) ?_
      | simp only [go_sem, Nat.reduceLT, Nat.reduceLeDiff, Nat.reduceEqDiff, Nat.reduceAdd, Nat.reduceMul, Nat.reduceSub, reduceCtorEq, rowsH_len]
      | simp (disch := omega) only [decide_eq_true_eq, if_pos, if_neg, wrap_id, le_maxLen, and_true, true_and, if_true, ite_true]
      | refine guard_split (by simp only [go_sem, Nat.reduceLT, Nat.reduceLeDiff, Nat.reduceEqDiff, Nat.reduceAdd, Nat.reduceMul, Nat.reduceSub, reduceCtorEq, rowsH_len]) rfl (fun hb => ?_) (fun hb => ?_)
    refine VWP_loopB (X := Nat × Nat) (fun x => [(1, .bp 0 0), (4, .rf x.2 x.1), (5, .int .i64 x.1)]) (fun x => [(0, .box [.fr 3 (rowsN w.first), .fr 67 (rowsH w.store.heads), .fr 70 (rowsD 72 w.store.descs), .fr 91 (rowsTh 120 72 137 w.threads), .fr 55 (rowsV w.log)]), (x.2, .root 3 (rowsN (seenN w.store x.1)))]) (fun x => w.store.heads.length - x.1)
      (fun x => x.1 ≤ w.store.heads.length ∧ 1 ≤ x.2) (fun x => x.2 + 1) (0, 1) ⟨by simp, by simp⟩ (by simp [updV]) (by simp [updH, seenN, rowsN]) (by simp) ?_
    rintro ⟨i, T⟩ nx ⟨hi, hTg⟩ hB
    simp only at hi hTg hB
    have hne0 : (0 : Nat) ≠ T := by omega
    have hne1 : T ≠ 0 := by omega
    have hw := wrap_id (x := (i : Int) + 1) (by omega)
    rcases Nat.lt_or_ge i w.store.heads.length with hlt | hge
    · obtain ⟨h, hh⟩ : ∃ h, w.store.heads[i]? = some h := ⟨_, List.getElem?_eq_getElem hlt⟩
      have hre := rowsH_at hh
      have n0 : nx ≠ 0 := by omega
      have m0 : (0 : Nat) ≠ nx := by omega
      have n1 : nx ≠ T := by omega
      have m1 : T ≠ nx := by omega
      have n2 : nx + 1 ≠ T := by omega
      have m2 : T ≠ nx + 1 := by omega
      have n3 : nx + 1 + 1 ≠ T := by omega
      have m3 : T ≠ nx + 1 + 1 := by omega
      have hln : (rowsN (seenN w.store i)).length = i := by rw [rowsN_len, seenN_len]
      have ht := rowsNl_take (seenN_len w.store i)
      have ho := rowsN_two (seenN w.store i) (seenV w.store i h)
      have hsu := seenN_succ hh
      rcases Int.lt_or_le h.desc 0 with hng | hps
      · have hnn : ¬ 0 ≤ h.desc := by omega
        rw [seenV_no hnn] at ho hsu
        have F := (And.intro hre (And.intro hnn (And.intro hne0 (And.intro hne1 (And.intro n0 (And.intro m0 (And.intro n1 (And.intro m1 (And.intro n2 (And.intro m2 (And.intro n3 (And.intro m3 (And.intro hln (And.intro ht ho))))))))))))))
        repeat' first
          | refine VWP_seq_k fun _ hK => ?_
          | refine VWP_region_k hT ?_
          | refine VWP_draw_k hT hM (by kernel_rfl) rfl ?_
          | refine VWP_block ?_
          | refine VWP_skip ?_
          | refine VWP_exit ?_
          | refine VWP_ret ?_
          | (refine hK _ ?_; clear hK)
          | (clear hK; refine hK _ ?_; clear hK)
          | (clear hK; clear hK; refine hK _ ?_; clear hK)
          | (clear hK; clear hK; clear hK; refine hK _ ?_; clear hK)
          | (simp only [decide_eq_true_eq, decide_eq_false_iff_not, bne_iff_ne, ne_eq, Bool.not_eq_true', Bool.not_eq_false', Bool.true_eq_false, Bool.false_eq_true, reduceCtorEq, not_true_eq_false, eq_self] at hb <;> try (exfalso; omega))
          | refine VWP_cond2 _ (by simp only [go_sem, Nat.reduceLT, Nat.reduceLeDiff, Nat.reduceEqDiff, Nat.reduceAdd, Nat.reduceMul, Nat.reduceSub, reduceCtorEq, rowsH_len, Nat.le_refl, F]; rfl) (fun hb => ?_) (fun hb => ?_)
          | simp only [go_sem, Nat.reduceLT, Nat.reduceLeDiff, Nat.reduceEqDiff, Nat.reduceAdd, Nat.reduceMul, Nat.reduceSub, reduceCtorEq, rowsH_len, Nat.le_refl, F]
          | simp (disch := omega) only [decide_eq_true_eq, if_pos, if_neg, wrap_id, le_maxLen, and_true, true_and, if_true, ite_true]
          | refine guard_split (by simp only [go_sem, Nat.reduceLT, Nat.reduceLeDiff, Nat.reduceEqDiff, Nat.reduceAdd, Nat.reduceMul, Nat.reduceSub, reduceCtorEq, rowsH_len, Nat.le_refl, F]) rfl (fun hb => ?_) (fun hb => ?_)
        refine nextB (i + 1, nx + 1 + 1) ⟨by simp only; omega, by simp only; omega⟩ (by simp only; omega) ?_ ?_ (by first | omega | (simp; try omega))
        · simp [updV, tmL, hw]
        · simp [updH, hpL, hsu, hne0, m0, n0, n1, m1, n2, m2, n3, m3]
          try omega
      · obtain ⟨k, hk⟩ : ∃ k : Nat, h.desc = k := ⟨h.desc.toNat, by omega⟩
        have hk0 : (0 : Int) ≤ (k : Nat) := by omega
        obtain ⟨d, hd, p, e, hpl, hpe, hop⟩ := lies_at hS hh hk
        have hkl := (List.getElem?_eq_some_iff.1 hd).1
        have hrd := rowsD_at (te := 72) hd
        have hde := f2 d (List.mem_of_getElem? hd)
        have hv := seenV_at (i := i) hk hd
        rw [hk] at hre
        by_cases hst : d.status = 1
        · rw [if_pos hst] at hv
          rw [hv] at ho hsu
          rw [hst] at hrd
          have hpv := place_some hpl hpe h.value
          rw [hpv] at ho hsu
          have hso := specOpened_ok d.entries i hde
          rw [hop] at hso
          have hrp := rowsE_at hpe
          have hpl2 := (List.getElem?_eq_some_iff.1 hpe).1
          have hp0 : (0 : Int) ≤ (p : Nat) := by omega
          cases hwr : e.write with
          | true =>
            rw [hwr] at ho hsu hrp
            simp only [if_true] at ho hsu
            have F := (And.intro hre (And.intro hrd (And.intro hrp (And.intro hk0 (And.intro hkl (And.intro hpl2 (And.intro hp0 (And.intro hne0 (And.intro hne1 (And.intro n0 (And.intro m0 (And.intro n1 (And.intro m1 (And.intro n2 (And.intro m2 (And.intro n3 (And.intro m3 (And.intro hln (And.intro ht ho)))))))))))))))))))
            repeat' first
              | refine VWP_seq_k fun _ hK => ?_
              | refine VWP_region_k hT ?_
              | refine VWP_draw_k hT hM (by kernel_rfl) rfl ?_
              | refine VWP_block ?_
              | refine VWP_skip ?_
              | refine VWP_exit ?_
              | refine VWP_ret ?_
              | (refine hK _ ?_; clear hK)
              | (clear hK; refine hK _ ?_; clear hK)
              | (clear hK; clear hK; refine hK _ ?_; clear hK)
              | (clear hK; clear hK; clear hK; refine hK _ ?_; clear hK)
              | (simp only [decide_eq_true_eq, decide_eq_false_iff_not, bne_iff_ne, ne_eq, Bool.not_eq_true', Bool.not_eq_false', Bool.true_eq_false, Bool.false_eq_true, reduceCtorEq, not_true_eq_false, eq_self] at hb <;> try (exfalso; omega))
              | refine VWP_cond2 _ (by simp only [go_sem, Nat.reduceLT, Nat.reduceLeDiff, Nat.reduceEqDiff, Nat.reduceAdd, Nat.reduceMul, Nat.reduceSub, reduceCtorEq, Nat.le_add_right, rowsH_len, rowsD_len, rowsE_len, Nat.le_refl, Int.reduceBEq, F]; rfl) (fun hb => ?_) (fun hb => ?_)
              | refine callK (by simp only [go_sem, Nat.reduceLT, Nat.reduceLeDiff, Nat.reduceEqDiff, Nat.reduceAdd, Nat.reduceMul, Nat.reduceSub, reduceCtorEq, Nat.le_add_right, rowsH_len, rowsD_len, rowsE_len, Nat.le_refl, Int.reduceBEq, F, List.mem_cons, List.not_mem_nil, or_false, forall_eq_or_imp, forall_eq, frzOk, frzOkC]; try simp) (args' := _) (by simp only [go_sem, Nat.reduceLT, Nat.reduceLeDiff, Nat.reduceEqDiff, Nat.reduceAdd, Nat.reduceMul, Nat.reduceSub, reduceCtorEq, Nat.le_add_right, rowsH_len, rowsD_len, rowsE_len, Nat.le_refl, Int.reduceBEq, F, frzA, frzC]; try rfl) (by first | exact hso) (by simp only [go_sem, Nat.reduceLT, Nat.reduceLeDiff, Nat.reduceEqDiff, Nat.reduceAdd, Nat.reduceMul, Nat.reduceSub, reduceCtorEq, Nat.le_add_right, rowsH_len, rowsD_len, rowsE_len, Nat.le_refl, Int.reduceBEq, F]; try simp) (by decide) ?_
              | simp only [go_sem, Nat.reduceLT, Nat.reduceLeDiff, Nat.reduceEqDiff, Nat.reduceAdd, Nat.reduceMul, Nat.reduceSub, reduceCtorEq, Nat.le_add_right, rowsH_len, rowsD_len, rowsE_len, Nat.le_refl, Int.reduceBEq, F]
              | simp (disch := omega) only [decide_eq_true_eq, if_pos, if_neg, wrap_id, le_maxLen, and_true, true_and, if_true, ite_true]
              | refine guard_split (by simp only [go_sem, Nat.reduceLT, Nat.reduceLeDiff, Nat.reduceEqDiff, Nat.reduceAdd, Nat.reduceMul, Nat.reduceSub, reduceCtorEq, Nat.le_add_right, rowsH_len, rowsD_len, rowsE_len, Nat.le_refl, Int.reduceBEq, F]) rfl (fun hb => ?_) (fun hb => ?_)
            refine nextB (i + 1, nx + 1 + 1408 + 1) ⟨by simp only; omega, by simp only; omega⟩ (by simp only; omega) ?_ ?_ (by first | omega | (simp; try omega))
            · simp [updV, tmL, hw]
            · simp [updH, hpL, hsu, hne0, m0, n0, n1, m1, n2, m2, n3, m3]
              try omega
          | false =>
            rw [hwr] at ho hsu hrp
            simp only [Bool.false_eq_true, if_false] at ho hsu
            have F := (And.intro hre (And.intro hrd (And.intro hrp (And.intro hk0 (And.intro hkl (And.intro hpl2 (And.intro hp0 (And.intro hne0 (And.intro hne1 (And.intro n0 (And.intro m0 (And.intro n1 (And.intro m1 (And.intro n2 (And.intro m2 (And.intro n3 (And.intro m3 (And.intro hln (And.intro ht ho)))))))))))))))))))
            repeat' first
              | refine VWP_seq_k fun _ hK => ?_
              | refine VWP_region_k hT ?_
              | refine VWP_draw_k hT hM (by kernel_rfl) rfl ?_
              | refine VWP_block ?_
              | refine VWP_skip ?_
              | refine VWP_exit ?_
              | refine VWP_ret ?_
              | (refine hK _ ?_; clear hK)
              | (clear hK; refine hK _ ?_; clear hK)
              | (clear hK; clear hK; refine hK _ ?_; clear hK)
              | (clear hK; clear hK; clear hK; refine hK _ ?_; clear hK)
              | (simp only [decide_eq_true_eq, decide_eq_false_iff_not, bne_iff_ne, ne_eq, Bool.not_eq_true', Bool.not_eq_false', Bool.true_eq_false, Bool.false_eq_true, reduceCtorEq, not_true_eq_false, eq_self] at hb <;> try (exfalso; omega))
              | refine VWP_cond2 _ (by simp only [go_sem, Nat.reduceLT, Nat.reduceLeDiff, Nat.reduceEqDiff, Nat.reduceAdd, Nat.reduceMul, Nat.reduceSub, reduceCtorEq, Nat.le_add_right, rowsH_len, rowsD_len, rowsE_len, Nat.le_refl, Int.reduceBEq, F]; rfl) (fun hb => ?_) (fun hb => ?_)
              | refine callK (by simp only [go_sem, Nat.reduceLT, Nat.reduceLeDiff, Nat.reduceEqDiff, Nat.reduceAdd, Nat.reduceMul, Nat.reduceSub, reduceCtorEq, Nat.le_add_right, rowsH_len, rowsD_len, rowsE_len, Nat.le_refl, Int.reduceBEq, F, List.mem_cons, List.not_mem_nil, or_false, forall_eq_or_imp, forall_eq, frzOk, frzOkC]; try simp) (args' := _) (by simp only [go_sem, Nat.reduceLT, Nat.reduceLeDiff, Nat.reduceEqDiff, Nat.reduceAdd, Nat.reduceMul, Nat.reduceSub, reduceCtorEq, Nat.le_add_right, rowsH_len, rowsD_len, rowsE_len, Nat.le_refl, Int.reduceBEq, F, frzA, frzC]; try rfl) (by first | exact hso) (by simp only [go_sem, Nat.reduceLT, Nat.reduceLeDiff, Nat.reduceEqDiff, Nat.reduceAdd, Nat.reduceMul, Nat.reduceSub, reduceCtorEq, Nat.le_add_right, rowsH_len, rowsD_len, rowsE_len, Nat.le_refl, Int.reduceBEq, F]; try simp) (by decide) ?_
              | simp only [go_sem, Nat.reduceLT, Nat.reduceLeDiff, Nat.reduceEqDiff, Nat.reduceAdd, Nat.reduceMul, Nat.reduceSub, reduceCtorEq, Nat.le_add_right, rowsH_len, rowsD_len, rowsE_len, Nat.le_refl, Int.reduceBEq, F]
              | simp (disch := omega) only [decide_eq_true_eq, if_pos, if_neg, wrap_id, le_maxLen, and_true, true_and, if_true, ite_true]
              | refine guard_split (by simp only [go_sem, Nat.reduceLT, Nat.reduceLeDiff, Nat.reduceEqDiff, Nat.reduceAdd, Nat.reduceMul, Nat.reduceSub, reduceCtorEq, Nat.le_add_right, rowsH_len, rowsD_len, rowsE_len, Nat.le_refl, Int.reduceBEq, F]) rfl (fun hb => ?_) (fun hb => ?_)
            refine nextB (i + 1, nx + 1 + 1408 + 1) ⟨by simp only; omega, by simp only; omega⟩ (by simp only; omega) ?_ ?_ (by first | omega | (simp; try omega))
            · simp [updV, tmL, hw]
            · simp [updH, hpL, hsu, hne0, m0, n0, n1, m1, n2, m2, n3, m3]
              try omega
        · have hsq : (d.status == 1) = false := by simpa using hst
          rw [if_neg hst] at hv
          rw [hv] at ho hsu
          have F := (And.intro hre (And.intro hrd (And.intro hk0 (And.intro hkl (And.intro hsq (And.intro hne0 (And.intro hne1 (And.intro n0 (And.intro m0 (And.intro n1 (And.intro m1 (And.intro n2 (And.intro m2 (And.intro n3 (And.intro m3 (And.intro hln (And.intro ht ho)))))))))))))))))
          repeat' first
            | refine VWP_seq_k fun _ hK => ?_
            | refine VWP_region_k hT ?_
            | refine VWP_draw_k hT hM (by kernel_rfl) rfl ?_
            | refine VWP_block ?_
            | refine VWP_skip ?_
            | refine VWP_exit ?_
            | refine VWP_ret ?_
            | (refine hK _ ?_; clear hK)
            | (clear hK; refine hK _ ?_; clear hK)
            | (clear hK; clear hK; refine hK _ ?_; clear hK)
            | (clear hK; clear hK; clear hK; refine hK _ ?_; clear hK)
            | (simp only [decide_eq_true_eq, decide_eq_false_iff_not, bne_iff_ne, ne_eq, Bool.not_eq_true', Bool.not_eq_false', Bool.true_eq_false, Bool.false_eq_true, reduceCtorEq, not_true_eq_false, eq_self] at hb <;> try (exfalso; omega))
            | refine VWP_cond2 _ (by simp only [go_sem, Nat.reduceLT, Nat.reduceLeDiff, Nat.reduceEqDiff, Nat.reduceAdd, Nat.reduceMul, Nat.reduceSub, reduceCtorEq, rowsH_len, rowsD_len, Nat.le_refl, F]; rfl) (fun hb => ?_) (fun hb => ?_)
            | simp only [go_sem, Nat.reduceLT, Nat.reduceLeDiff, Nat.reduceEqDiff, Nat.reduceAdd, Nat.reduceMul, Nat.reduceSub, reduceCtorEq, rowsH_len, rowsD_len, Nat.le_refl, F]
            | simp (disch := omega) only [decide_eq_true_eq, if_pos, if_neg, wrap_id, le_maxLen, and_true, true_and, if_true, ite_true]
            | refine guard_split (by simp only [go_sem, Nat.reduceLT, Nat.reduceLeDiff, Nat.reduceEqDiff, Nat.reduceAdd, Nat.reduceMul, Nat.reduceSub, reduceCtorEq, rowsH_len, rowsD_len, Nat.le_refl, F]) rfl (fun hb => ?_) (fun hb => ?_)
          refine nextB (i + 1, nx + 1 + 1) ⟨by simp only; omega, by simp only; omega⟩ (by simp only; omega) ?_ ?_ (by first | omega | (simp; try omega))
          · simp [updV, tmL, hw]
          · simp [updH, hpL, hsu, hne0, m0, n0, n1, m1, n2, m2, n3, m3]
            try omega
    · obtain rfl : i = w.store.heads.length := by omega
      repeat' first
        | refine VWP_seq_k fun _ hK => ?_
        | refine VWP_region_k hT ?_
        | refine VWP_draw_k hT hM (by kernel_rfl) rfl ?_
        | refine VWP_block ?_
        | refine VWP_skip ?_
        | refine VWP_exit ?_
        | refine VWP_ret ?_
        | (refine hK _ ?_; clear hK)
        | (clear hK; refine hK _ ?_; clear hK)
        | (clear hK; clear hK; refine hK _ ?_; clear hK)
        | (clear hK; clear hK; clear hK; refine hK _ ?_; clear hK)
        | (simp only [decide_eq_true_eq, decide_eq_false_iff_not, bne_iff_ne, ne_eq, Bool.not_eq_true', Bool.not_eq_false', Bool.true_eq_false, Bool.false_eq_true, reduceCtorEq, not_true_eq_false, eq_self] at hb <;> try (exfalso; omega))
        | refine VWP_cond2 _ (by simp only [go_sem, Nat.reduceLT, Nat.reduceLeDiff, Nat.reduceEqDiff, Nat.reduceAdd, Nat.reduceMul, Nat.reduceSub, reduceCtorEq, rowsH_len, hne0, hne1]; rfl) (fun hb => ?_) (fun hb => ?_)
        | simp only [go_sem, Nat.reduceLT, Nat.reduceLeDiff, Nat.reduceEqDiff, Nat.reduceAdd, Nat.reduceMul, Nat.reduceSub, reduceCtorEq, rowsH_len, hne0, hne1]
        | simp (disch := omega) only [decide_eq_true_eq, if_pos, if_neg, wrap_id, le_maxLen, and_true, true_and, if_true, ite_true]
        | refine guard_split (by simp only [go_sem, Nat.reduceLT, Nat.reduceLeDiff, Nat.reduceEqDiff, Nat.reduceAdd, Nat.reduceMul, Nat.reduceSub, reduceCtorEq, rowsH_len, hne0, hne1]) rfl (fun hb => ?_) (fun hb => ?_)
      exact ret_rfs (T := T) (by simp only [go_sem, Nat.reduceLT, Nat.reduceLeDiff, Nat.reduceEqDiff, Nat.reduceAdd, Nat.reduceMul, Nat.reduceSub, reduceCtorEq, hne0, hne1]; try simp) (by simp only [go_sem, Nat.reduceLT, Nat.reduceLeDiff, Nat.reduceEqDiff, Nat.reduceAdd, Nat.reduceMul, Nat.reduceSub, reduceCtorEq]; try rfl) rfl (by simp only [go_sem, Nat.reduceLT, Nat.reduceLeDiff, Nat.reduceEqDiff, Nat.reduceAdd, Nat.reduceMul, Nat.reduceSub, reduceCtorEq, hne0, hne1]; try rfl) rfl (by rw [rowsN_len, seenN_len]) (rowsN_pur _)
theorem seenLaw_ok (w : WorldD) (hf : w.fits) : SatP Tryz.prog 4 [.agg (w.cells 3 122 111 145 85 143 147 97)] (.bool true) [] := by
  obtain ⟨z1, z2⟩ := szW_tiny (w := w) (left := 1048576) (by omega) (by omega)
  have hc := szWorld_ok w 1048576 (by omega) (by omega) hf
  refine satP_of_body hT Tryz.func4 (by kernel_rfl) rfl (rs := [.tmp 2]) rfl (n := 96) rfl (by simp) rfl (by simp) fun E => ?_
  unfold St.init
  rcases Int.lt_or_le (szW w 1048576) 0 with hbig | hsm
  · have hz2 := z2 hbig
    rw [hz2] at hc
    unfold WorldD.cells at *
    repeat' first
      | refine VWP_seq_k fun _ hK => ?_
      | refine VWP_region_k hT ?_
      | refine VWP_draw_k hT hM (by kernel_rfl) rfl ?_
      | refine VWP_block ?_
      | refine VWP_skip ?_
      | refine VWP_exit ?_
      | refine VWP_ret ?_
      | (refine hK _ ?_; clear hK)
      | (clear hK; refine hK _ ?_; clear hK)
      | (clear hK; clear hK; refine hK _ ?_; clear hK)
      | (clear hK; clear hK; clear hK; refine hK _ ?_; clear hK)
      | (simp only [decide_eq_true_eq, decide_eq_false_iff_not, bne_iff_ne, ne_eq, Bool.not_eq_true', Bool.not_eq_false', Bool.true_eq_false, Bool.false_eq_true, reduceCtorEq, not_true_eq_false, eq_self] at hb <;> try (exfalso; omega))
      | refine VWP_cond2 _ (by simp only [go_sem, Nat.reduceLT, Nat.reduceLeDiff, Nat.reduceEqDiff, Nat.reduceAdd, Nat.reduceMul, Nat.reduceSub, reduceCtorEq]; rfl) (fun hb => ?_) (fun hb => ?_)
      | refine callK (by simp only [go_sem, Nat.reduceLT, Nat.reduceLeDiff, Nat.reduceEqDiff, Nat.reduceAdd, Nat.reduceMul, Nat.reduceSub, reduceCtorEq, List.mem_cons, List.not_mem_nil, or_false, forall_eq_or_imp, forall_eq, frzOk, frzOkC]; try simp) (args' := _) (by simp only [go_sem, Nat.reduceLT, Nat.reduceLeDiff, Nat.reduceEqDiff, Nat.reduceAdd, Nat.reduceMul, Nat.reduceSub, reduceCtorEq, frzA, frzC]; try rfl) (by first | exact hc) (by simp only [go_sem, Nat.reduceLT, Nat.reduceLeDiff, Nat.reduceEqDiff, Nat.reduceAdd, Nat.reduceMul, Nat.reduceSub, reduceCtorEq]; try simp) (by decide) ?_
      | simp only [go_sem, Nat.reduceLT, Nat.reduceLeDiff, Nat.reduceEqDiff, Nat.reduceAdd, Nat.reduceMul, Nat.reduceSub, reduceCtorEq]
      | simp (disch := omega) only [decide_eq_true_eq, if_pos, if_neg, wrap_id, le_maxLen, and_true, true_and, if_true, ite_true]
      | refine guard_split (by simp only [go_sem, Nat.reduceLT, Nat.reduceLeDiff, Nat.reduceEqDiff, Nat.reduceAdd, Nat.reduceMul, Nat.reduceSub, reduceCtorEq]) rfl (fun hb => ?_) (fun hb => ?_)
    refine ret_scal (by simp only [go_sem, Nat.reduceLT, Nat.reduceLeDiff, Nat.reduceEqDiff, Nat.reduceAdd, Nat.reduceMul, Nat.reduceSub, reduceCtorEq]; rfl) rfl ?_
    rfl
  · have hn : ¬ szW w 1048576 < 0 := by omega
    have hs := z1 hsm
    obtain ⟨r, hr⟩ : ∃ r, seenR w = r := ⟨_, rfl⟩
    have hln : r.1.length ≤ 1048576 := by
      rw [← hr]
      unfold seenR
      split
      · rw [seenN_len]; exact hs.2.1.1
      · simp
    have ht := toWorld_ok w hs
    have hi := implSeen_ok w r hr hs
    have hp := specSeen_ok w r hr hs
    have hq := eqWorld_ok w w hs
    have hm := markWorld_ok w 1 (by omega) (by omega) hs
    obtain ⟨out, ok⟩ := r
    simp only at hi hp hln
    have hmt := rowsN_take (marksN 1 out.length)
    rw [marksN_len] at hmt
    obtain ⟨f1, ⟨s1, s2, s3⟩, f3, f4, f5⟩ := hs
    have hnk : ¬ 1 + (w.first.length : Int) + cntS w.store + (mkN w.threads : Int) + 4 * w.log.length < 0 := by
      have := (cntD_le w.store.descs (Nat.le_refl _)).1
      unfold cntS
      omega
    unfold WorldD.cells at *
    repeat' first
      | refine VWP_seq_k fun _ hK => ?_
      | refine VWP_region_k hT ?_
      | refine VWP_draw_k hT hM (by kernel_rfl) rfl ?_
      | refine VWP_block ?_
      | refine VWP_skip ?_
      | refine VWP_exit ?_
      | refine VWP_ret ?_
      | (refine hK _ ?_; clear hK)
      | (clear hK; refine hK _ ?_; clear hK)
      | (clear hK; clear hK; refine hK _ ?_; clear hK)
      | (clear hK; clear hK; clear hK; refine hK _ ?_; clear hK)
      | (simp only [decide_eq_true_eq, decide_eq_false_iff_not, bne_iff_ne, ne_eq, Bool.not_eq_true', Bool.not_eq_false', Bool.true_eq_false, Bool.false_eq_true, reduceCtorEq, not_true_eq_false, eq_self] at hb <;> try (exfalso; omega))
      | refine VWP_cond2 _ (by simp only [go_sem, Nat.reduceLT, Nat.reduceLeDiff, Nat.reduceEqDiff, Nat.reduceAdd, Nat.reduceMul, Nat.reduceSub, reduceCtorEq, hn, hmt, hnk, rowsN_len, rowsN_pur, rowsN_take, rowsH_len, rowsH_pur, rowsH_take, rowsD_len, rowsD_pur, rowsD_take, rowsTh_len, rowsTh_pur, rowsTh_take, rowsV_len, rowsV_pur, rowsV_take, marksN_len, Nat.le_refl]; rfl) (fun hb => ?_) (fun hb => ?_)
      | refine callK (by simp only [go_sem, Nat.reduceLT, Nat.reduceLeDiff, Nat.reduceEqDiff, Nat.reduceAdd, Nat.reduceMul, Nat.reduceSub, reduceCtorEq, hn, hmt, hnk, rowsN_len, rowsN_pur, rowsN_take, rowsH_len, rowsH_pur, rowsH_take, rowsD_len, rowsD_pur, rowsD_take, rowsTh_len, rowsTh_pur, rowsTh_take, rowsV_len, rowsV_pur, rowsV_take, marksN_len, Nat.le_refl, List.mem_cons, List.not_mem_nil, or_false, forall_eq_or_imp, forall_eq, frzOk, frzOkC]; try simp) (args' := _) (by simp only [go_sem, Nat.reduceLT, Nat.reduceLeDiff, Nat.reduceEqDiff, Nat.reduceAdd, Nat.reduceMul, Nat.reduceSub, reduceCtorEq, hn, hmt, hnk, rowsN_len, rowsN_pur, rowsN_take, rowsH_len, rowsH_pur, rowsH_take, rowsD_len, rowsD_pur, rowsD_take, rowsTh_len, rowsTh_pur, rowsTh_take, rowsV_len, rowsV_pur, rowsV_take, marksN_len, Nat.le_refl, frzA, frzC]; try rfl) (by first | exact hc | exact ht | exact hi | exact hp | exact hq | exact eqIntS_ok out out (by omega) | exact heldIntS_ok out.length 1 (by omega) (by omega) (by omega)) (by simp only [go_sem, Nat.reduceLT, Nat.reduceLeDiff, Nat.reduceEqDiff, Nat.reduceAdd, Nat.reduceMul, Nat.reduceSub, reduceCtorEq, hn, hmt, hnk, rowsN_len, rowsN_pur, rowsN_take, rowsH_len, rowsH_pur, rowsH_take, rowsD_len, rowsD_pur, rowsD_take, rowsTh_len, rowsTh_pur, rowsTh_take, rowsV_len, rowsV_pur, rowsV_take, marksN_len, Nat.le_refl]; try simp) (by decide) ?_
      | refine callO [7, 8, 9, 10, 11] (by simp) (by simp only [go_sem, Nat.reduceLT, Nat.reduceLeDiff, Nat.reduceEqDiff, Nat.reduceAdd, Nat.reduceMul, Nat.reduceSub, reduceCtorEq, hn, hmt, hnk, rowsN_len, rowsN_pur, rowsN_take, rowsH_len, rowsH_pur, rowsH_take, rowsD_len, rowsD_pur, rowsD_take, rowsTh_len, rowsTh_pur, rowsTh_take, rowsV_len, rowsV_pur, rowsV_take, marksN_len, Nat.le_refl, List.mem_cons, List.not_mem_nil, or_false, forall_eq_or_imp, forall_eq, viewOkE, viewOkC]; try simp) (by simp only [go_sem, Nat.reduceLT, Nat.reduceLeDiff, Nat.reduceEqDiff, Nat.reduceAdd, Nat.reduceMul, Nat.reduceSub, reduceCtorEq, hn, hmt, hnk, rowsN_len, rowsN_pur, rowsN_take, rowsH_len, rowsH_pur, rowsH_take, rowsD_len, rowsD_pur, rowsD_take, rowsTh_len, rowsTh_pur, rowsTh_take, rowsV_len, rowsV_pur, rowsV_take, marksN_len, Nat.le_refl, List.mem_cons, List.not_mem_nil, or_false, forall_eq_or_imp, forall_eq, viewOk, viewOkC, frzOk, frzOkC]; try simp) (args' := _) (by simp only [go_sem, Nat.reduceLT, Nat.reduceLeDiff, Nat.reduceEqDiff, Nat.reduceAdd, Nat.reduceMul, Nat.reduceSub, reduceCtorEq, hn, hmt, hnk, rowsN_len, rowsN_pur, rowsN_take, rowsH_len, rowsH_pur, rowsH_take, rowsD_len, rowsD_pur, rowsD_take, rowsTh_len, rowsTh_pur, rowsTh_take, rowsV_len, rowsV_pur, rowsV_take, marksN_len, Nat.le_refl, frzA, frzC]; try rfl) (I := _) (by simp only [go_sem, Nat.reduceLT, Nat.reduceLeDiff, Nat.reduceEqDiff, Nat.reduceAdd, Nat.reduceMul, Nat.reduceSub, reduceCtorEq, hn, hmt, hnk, rowsN_len, rowsN_pur, rowsN_take, rowsH_len, rowsH_pur, rowsH_take, rowsD_len, rowsD_pur, rowsD_take, rowsTh_len, rowsTh_pur, rowsTh_take, rowsV_len, rowsV_pur, rowsV_take, marksN_len, Nat.le_refl]; try rfl) (by exact hm) (by decide) ?_
      | refine callO [13] (by simp) (by simp only [go_sem, Nat.reduceLT, Nat.reduceLeDiff, Nat.reduceEqDiff, Nat.reduceAdd, Nat.reduceMul, Nat.reduceSub, reduceCtorEq, hn, hmt, hnk, rowsN_len, rowsN_pur, rowsN_take, rowsH_len, rowsH_pur, rowsH_take, rowsD_len, rowsD_pur, rowsD_take, rowsTh_len, rowsTh_pur, rowsTh_take, rowsV_len, rowsV_pur, rowsV_take, marksN_len, Nat.le_refl, List.mem_cons, List.not_mem_nil, or_false, forall_eq_or_imp, forall_eq, viewOkE, viewOkC]; try simp) (by simp only [go_sem, Nat.reduceLT, Nat.reduceLeDiff, Nat.reduceEqDiff, Nat.reduceAdd, Nat.reduceMul, Nat.reduceSub, reduceCtorEq, hn, hmt, hnk, rowsN_len, rowsN_pur, rowsN_take, rowsH_len, rowsH_pur, rowsH_take, rowsD_len, rowsD_pur, rowsD_take, rowsTh_len, rowsTh_pur, rowsTh_take, rowsV_len, rowsV_pur, rowsV_take, marksN_len, Nat.le_refl, List.mem_cons, List.not_mem_nil, or_false, forall_eq_or_imp, forall_eq, viewOk, viewOkC, frzOk, frzOkC]; try simp) (args' := _) (by simp only [go_sem, Nat.reduceLT, Nat.reduceLeDiff, Nat.reduceEqDiff, Nat.reduceAdd, Nat.reduceMul, Nat.reduceSub, reduceCtorEq, hn, hmt, hnk, rowsN_len, rowsN_pur, rowsN_take, rowsH_len, rowsH_pur, rowsH_take, rowsD_len, rowsD_pur, rowsD_take, rowsTh_len, rowsTh_pur, rowsTh_take, rowsV_len, rowsV_pur, rowsV_take, marksN_len, Nat.le_refl, frzA, frzC]; try rfl) (I := _) (by simp only [go_sem, Nat.reduceLT, Nat.reduceLeDiff, Nat.reduceEqDiff, Nat.reduceAdd, Nat.reduceMul, Nat.reduceSub, reduceCtorEq, hn, hmt, hnk, rowsN_len, rowsN_pur, rowsN_take, rowsH_len, rowsH_pur, rowsH_take, rowsD_len, rowsD_pur, rowsD_take, rowsTh_len, rowsTh_pur, rowsTh_take, rowsV_len, rowsV_pur, rowsV_take, marksN_len, Nat.le_refl]; try rfl) (by exact markIntS_ok out 1 (by omega) (by omega) (by omega)) (by decide) ?_
      | simp only [go_sem, Nat.reduceLT, Nat.reduceLeDiff, Nat.reduceEqDiff, Nat.reduceAdd, Nat.reduceMul, Nat.reduceSub, reduceCtorEq, hn, hmt, hnk, rowsN_len, rowsN_pur, rowsN_take, rowsH_len, rowsH_pur, rowsH_take, rowsD_len, rowsD_pur, rowsD_take, rowsTh_len, rowsTh_pur, rowsTh_take, rowsV_len, rowsV_pur, rowsV_take, marksN_len, Nat.le_refl]
      | simp (disch := omega) only [decide_eq_true_eq, if_pos, if_neg, wrap_id, le_maxLen, and_true, true_and, if_true, ite_true]
      | refine guard_split (by simp only [go_sem, Nat.reduceLT, Nat.reduceLeDiff, Nat.reduceEqDiff, Nat.reduceAdd, Nat.reduceMul, Nat.reduceSub, reduceCtorEq, hn, hmt, hnk, rowsN_len, rowsN_pur, rowsN_take, rowsH_len, rowsH_pur, rowsH_take, rowsD_len, rowsD_pur, rowsD_take, rowsTh_len, rowsTh_pur, rowsTh_take, rowsV_len, rowsV_pur, rowsV_take, marksN_len, Nat.le_refl]) rfl (fun hb => ?_) (fun hb => ?_)
    refine ret_scal (by simp only [go_sem, Nat.reduceLT, Nat.reduceLeDiff, Nat.reduceEqDiff, Nat.reduceAdd, Nat.reduceMul, Nat.reduceSub, reduceCtorEq]; rfl) rfl ?_
    rfl
end Go.Proofs.YtclljpdcpcolpaaGreat
