/- One step of a descriptor: the reference's. -/
import Derived.Test.YtchkbgekmoileaaLF
import Derived.Test.YtchkbgekmoileaaVA
import Derived.Test.YtchkbgekmoileaaEf
namespace Go.Proofs.Ytchkbgekmoileaa
open Go Go.RowKit
set_option linter.unusedVariables false
set_option linter.unusedSimpArgs false
set_option maxRecDepth 100000
set_option maxHeartbeats 4000000
attribute [local irreducible] VWP vops vdraw contV contD CallK Guard GuardV NextL Puts Runs RetOK RetQ RetO RetQO thenQ blockQ

/-- What becomes of a head that a descriptor lets go. -/
def freeH (d : DescS) (e : EntS) (h : HeadD) : HeadD := if d.status = 1 ∧ e.write = true then ⟨e.new, (h.version + 1).tmod 1000001, -1⟩ else ⟨h.value, h.version, -1⟩
/-- One step: the heads, the descriptors, the frame, the descriptor that was met. -/
def driveM (s : StoreD) (f : FrameD) (k : Nat) (d : DescS) (e : EntS) (o : Nat) (h : HeadD) : StoreD × FrameD × Int :=
  if f.phase = 0 then (s, ⟨f.desc, if d.status = 0 then 1 else 4, 0⟩, -1)
  else if f.phase = 1 then
    (if h.desc = f.desc then (s, onwardM d.entries.length f 2, -1)
    else if 0 ≤ h.desc then (s, ⟨f.desc, 0, 0⟩, h.desc)
    else if h.version ≠ e.version then (s, ⟨f.desc, 3, 0⟩, -1)
    else (⟨s.heads.set o ⟨h.value, h.version, f.desc⟩, s.descs⟩, onwardM d.entries.length f 2, -1))
  else if f.phase = 2 ∨ f.phase = 3 then (if d.status = 0 then ⟨s.heads, s.descs.set k ⟨d.owner, if f.phase = 2 then 1 else 2, d.entries⟩⟩ else s, ⟨f.desc, 4, 0⟩, -1)
  else if f.phase = 4 then (if h.desc = f.desc then ⟨s.heads.set o (freeH d e h), s.descs⟩ else s, onwardM d.entries.length f 5, -1)
  else (s, f, -1)
/-- What a frame that is right stands at. -/
structure AtP (s : StoreD) (f : FrameD) (k : Nat) (d : DescS) (j : Nat) (e : EntS) (o : Nat) (h : HeadD) : Prop where
  fk : f.desc = k
  dk : s.descs[k]? = some d
  fj : f.place = j
  ej : d.entries[j]? = some e
  eo : e.object = o
  ho : s.heads[o]? = some h
theorem at_ex {s : StoreD} {f : FrameD} (hS : StoreP s) (hf : frmB s f = true) : ∃ k d j e o h, AtP s f k d j e o h := by
  unfold frmB at hf
  simp only [Bool.and_eq_true] at hf
  obtain ⟨⟨h1, h2⟩, h3⟩ := hf
  simp [inB] at h1
  obtain ⟨k, hk⟩ : ∃ k : Nat, f.desc = k := ⟨f.desc.toNat, by omega⟩
  obtain ⟨d, hd⟩ : ∃ d, s.descs[k]? = some d := ⟨_, List.getElem?_eq_getElem (by omega)⟩
  have hfd := hS.2.2.2.1 d (List.mem_of_getElem? hd)
  have hpos := hfd.1.2.2.2.2.1
  have hj : ∃ j : Nat, f.place = j ∧ j < d.entries.length := by
    rw [hk, Int.toNat_natCast, hd] at h3
    split at h3
    · simp [inB] at h3
      exact ⟨f.place.toNat, by omega, by omega⟩
    · simp at h3
      exact ⟨0, by omega, hpos⟩
  obtain ⟨j, hj, hjl⟩ := hj
  obtain ⟨e, he⟩ : ∃ e, d.entries[j]? = some e := ⟨_, List.getElem?_eq_getElem hjl⟩
  obtain ⟨o, ho, hol⟩ := fits_obj hfd he
  exact ⟨k, d, j, e, o, _, hk, hd, hj, he, ho, List.getElem?_eq_getElem hol⟩
theorem rowsD_back {te : TypeId} {ds : List DescS} {k : Nat} {d : DescS} (h : ds[k]? = some d) : (rowsD te ds).set k [.int .i64 d.owner, .int .i64 d.status, .list te (rowsE d.entries)] = rowsD te ds := by
  refine List.ext_getElem? fun j => ?_
  have hlt := (List.getElem?_eq_some_iff.1 h).1
  by_cases hj : j = k
  · subst hj
    rw [List.getElem?_set_self (by rw [rowsD_len]; exact hlt), rowsD_at h]
  · rw [List.getElem?_set_ne (Ne.symm hj)]
theorem rowsD_turn {te : TypeId} {ds : List DescS} {k : Nat} (o s : Int) (es : List EntS) : (rowsD te ds).set k [.int .i64 o, .int .i64 s, .list te (rowsE es)] = rowsD te (ds.set k ⟨o, s, es⟩) := by simp [rowsD, List.map_set, rowT]
theorem l7Drive_ok (s : StoreD) (f : FrameD) (k : Nat) (d : DescS) (j : Nat) (e : EntS) (o : Nat) (h : HeadD) (ha : AtP s f k d j e o h) (hv0 : 0 ≤ h.version) (hv1 : h.version ≤ 1000000) (hs : s.small) (r : StoreD × FrameD × Int) (hr : driveM s f k d e o h = r) :
    SatO Try.prog 57 [.agg [.rf 0 s.heads.length, .rf 1 s.descs.length], .agg f.cells] [.root 36 (rowsH s.heads), .root 40 (rowsD 70 s.descs)]
      (.tup [.agg r.2.1.cells, .int .i64 r.2.2]) [.root 36 (rowsH r.1.heads), .root 40 (rowsD 70 r.1.descs)] := by
  obtain ⟨hk, hd, hj, he, heo, hho⟩ := ha
  obtain ⟨f1, f2, f3⟩ := hs
  have hkl := (List.getElem?_eq_some_iff.1 hd).1
  have hjl := (List.getElem?_eq_some_iff.1 he).1
  have hol := (List.getElem?_eq_some_iff.1 hho).1
  have hde := f3 d (List.mem_of_getElem? hd)
  have hk0 : (0 : Int) ≤ (k : Nat) := by omega
  have hj0 : (0 : Int) ≤ (j : Nat) := by omega
  have ho0 : (0 : Int) ≤ (o : Nat) := by omega
  have hrd := rowsD_at (te := 70) hd
  have hre := rowsE_at he
  have hrh := rowsH_at hho
  have hkr : k < (rowsD 70 s.descs).length := by rw [rowsD_len]; exact hkl
  have hor : o < (rowsH s.heads).length := by rw [rowsH_len]; exact hol
  have hbk := rowsD_back (te := 70) hd
  rw [heo] at hre
  refine satO_of_body hT Try.func57 (by kernel_rfl) rfl (rs := [.cell 4 50, .tmp 5]) rfl (n := 137) rfl (by simp) rfl (m := 2) rfl ⟨⟨rfl, rowsH_pur _⟩, ⟨rfl, rowsD_pur _ _⟩, by simp [keptL]⟩ fun E hE => ?_
  unfold St.initO
  unfold FrameD.cells
  by_cases p0 : f.phase = 0
  · have hm : driveM s f k d e o h = (s, ⟨f.desc, if d.status = 0 then 1 else 4, 0⟩, -1) := by rw [driveM, if_pos p0]
    rw [hm] at hr
    subst hr
    by_cases st : d.status = 0
    · have stq : (d.status == 0) = true := by simp [st]
      simp only [if_pos st]
      have F := And.intro @rowsD_len (And.intro @rowsE_len (And.intro @rowsH_len (And.intro hk (And.intro hj (And.intro hk0 (And.intro hj0 (And.intro ho0 (And.intro hkl (And.intro hjl (And.intro hol (And.intro hrd (And.intro hre (And.intro hrh (And.intro hkr (And.intro hor (And.intro (fun a => List.getElem?_set_self (a := a) hkr) (And.intro @List.length_set.{0} (And.intro @Nat.le_refl (And.intro p0 stq)))))))))))))))))))
      repeat' first
        | refine wSq fun _ hK => ?_
        | (refine VWP_split_at (id := 1) [(1, k, 2)] (by simp only [go_sem, Nat.reduceLT, Nat.reduceLeDiff, Nat.reduceEqDiff, Nat.reduceAdd, Nat.reduceMul, Nat.reduceSub, reduceCtorEq, Int.reduceBEq, Int.reduceBNe, Int.reduceLT, Int.reduceLE, Int.reduceAdd, Int.reduceToNat, F, splits, splitH, merges, mergeH, List.set_set, List.set_cons_succ, List.set_cons_zero, List.getElem?_set_self, List.getElem?_cons_succ, List.getElem?_cons_zero, Nat.le_refl]; rfl) ?_)
        | refine wRg ?_
        | refine wDr ?_
        | refine VWP_block ?_
        | refine VWP_skip ?_
        | refine VWP_exit ?_
        | refine VWP_ret ?_
        | (refine hK _ ?_; clear hK)
        | (clear hK; refine hK _ ?_; clear hK)
        | (clear hK; clear hK; refine hK _ ?_; clear hK)
        | (clear hK; clear hK; clear hK; refine hK _ ?_; clear hK)
        | (simp only [wHb, reduceCtorEq] at hb <;> try (exfalso; omega))
        | (refine VWP_cond2 true ?_ ?_ (fun hh => nomatch hh); focus (simp only [go_sem, Nat.reduceLT, Nat.reduceLeDiff, Nat.reduceEqDiff, Nat.reduceAdd, Nat.reduceMul, Nat.reduceSub, reduceCtorEq, Int.reduceBEq, Int.reduceBNe, Int.reduceLT, Int.reduceLE, Int.reduceAdd, Int.reduceToNat, F]; done); intro _)
        | (refine VWP_cond2 false ?_ (fun hh => nomatch hh) ?_; focus (simp only [go_sem, Nat.reduceLT, Nat.reduceLeDiff, Nat.reduceEqDiff, Nat.reduceAdd, Nat.reduceMul, Nat.reduceSub, reduceCtorEq, Int.reduceBEq, Int.reduceBNe, Int.reduceLT, Int.reduceLE, Int.reduceAdd, Int.reduceToNat, F]; done); intro _)
        | refine wCdx (fun hb => ?_) fun hb => ?_
        | simp only [go_sem, Nat.reduceLT, Nat.reduceLeDiff, Nat.reduceEqDiff, Nat.reduceAdd, Nat.reduceMul, Nat.reduceSub, reduceCtorEq, Int.reduceBEq, Int.reduceBNe, Int.reduceLT, Int.reduceLE, Int.reduceAdd, Int.reduceToNat, F]
        | simp (disch := omega) only [decide_eq_true_eq, if_pos, if_neg, wrap_id, le_maxLen, and_true, true_and, if_true, ite_true]
        | refine wGdx (fun hb => ?_) fun hb => ?_
      refine retO_mk [(1, k, 2)] (by simp only [merges, mergeH, go_sem, Nat.reduceLT, Nat.reduceLeDiff, Nat.reduceEqDiff, Nat.reduceAdd, Nat.reduceMul, Nat.reduceSub, reduceCtorEq, hkr, List.getElem?_set_self hkr, List.set_set, List.length_set, List.set_cons_succ, List.set_cons_zero, rowsE_len, rowsE_take, Nat.le_refl, hbk, rowsD_turn]; rfl) [.root 36 (rowsH s.heads), .root 40 (rowsD 70 s.descs)] rfl (by simp [keepsL, updH, HpE, rowsH_set, rowsD_turn, hbk]) rfl (by simp only [go_sem, Nat.reduceLT, Nat.reduceLeDiff, Nat.reduceEqDiff, Nat.reduceAdd, Nat.reduceMul, Nat.reduceSub, reduceCtorEq, vres]; rfl) (acc := []) rfl (by simp) rfl
    · have stq : (d.status == 0) = false := by simpa using st
      simp only [if_neg st]
      have F := And.intro @rowsD_len (And.intro @rowsE_len (And.intro @rowsH_len (And.intro hk (And.intro hj (And.intro hk0 (And.intro hj0 (And.intro ho0 (And.intro hkl (And.intro hjl (And.intro hol (And.intro hrd (And.intro hre (And.intro hrh (And.intro hkr (And.intro hor (And.intro (fun a => List.getElem?_set_self (a := a) hkr) (And.intro @List.length_set.{0} (And.intro @Nat.le_refl (And.intro p0 stq)))))))))))))))))))
      repeat' first
        | refine wSq fun _ hK => ?_
        | (refine VWP_split_at (id := 1) [(1, k, 2)] (by simp only [go_sem, Nat.reduceLT, Nat.reduceLeDiff, Nat.reduceEqDiff, Nat.reduceAdd, Nat.reduceMul, Nat.reduceSub, reduceCtorEq, Int.reduceBEq, Int.reduceBNe, Int.reduceLT, Int.reduceLE, Int.reduceAdd, Int.reduceToNat, F, splits, splitH, merges, mergeH, List.set_set, List.set_cons_succ, List.set_cons_zero, List.getElem?_set_self, List.getElem?_cons_succ, List.getElem?_cons_zero, Nat.le_refl]; rfl) ?_)
        | refine wRg ?_
        | refine wDr ?_
        | refine VWP_block ?_
        | refine VWP_skip ?_
        | refine VWP_exit ?_
        | refine VWP_ret ?_
        | (refine hK _ ?_; clear hK)
        | (clear hK; refine hK _ ?_; clear hK)
        | (clear hK; clear hK; refine hK _ ?_; clear hK)
        | (clear hK; clear hK; clear hK; refine hK _ ?_; clear hK)
        | (simp only [wHb, reduceCtorEq] at hb <;> try (exfalso; omega))
        | (refine VWP_cond2 true ?_ ?_ (fun hh => nomatch hh); focus (simp only [go_sem, Nat.reduceLT, Nat.reduceLeDiff, Nat.reduceEqDiff, Nat.reduceAdd, Nat.reduceMul, Nat.reduceSub, reduceCtorEq, Int.reduceBEq, Int.reduceBNe, Int.reduceLT, Int.reduceLE, Int.reduceAdd, Int.reduceToNat, F]; done); intro _)
        | (refine VWP_cond2 false ?_ (fun hh => nomatch hh) ?_; focus (simp only [go_sem, Nat.reduceLT, Nat.reduceLeDiff, Nat.reduceEqDiff, Nat.reduceAdd, Nat.reduceMul, Nat.reduceSub, reduceCtorEq, Int.reduceBEq, Int.reduceBNe, Int.reduceLT, Int.reduceLE, Int.reduceAdd, Int.reduceToNat, F]; done); intro _)
        | refine wCdx (fun hb => ?_) fun hb => ?_
        | simp only [go_sem, Nat.reduceLT, Nat.reduceLeDiff, Nat.reduceEqDiff, Nat.reduceAdd, Nat.reduceMul, Nat.reduceSub, reduceCtorEq, Int.reduceBEq, Int.reduceBNe, Int.reduceLT, Int.reduceLE, Int.reduceAdd, Int.reduceToNat, F]
        | simp (disch := omega) only [decide_eq_true_eq, if_pos, if_neg, wrap_id, le_maxLen, and_true, true_and, if_true, ite_true]
        | refine wGdx (fun hb => ?_) fun hb => ?_
      refine retO_mk [(1, k, 2)] (by simp only [merges, mergeH, go_sem, Nat.reduceLT, Nat.reduceLeDiff, Nat.reduceEqDiff, Nat.reduceAdd, Nat.reduceMul, Nat.reduceSub, reduceCtorEq, hkr, List.getElem?_set_self hkr, List.set_set, List.length_set, List.set_cons_succ, List.set_cons_zero, rowsE_len, rowsE_take, Nat.le_refl, hbk, rowsD_turn]; rfl) [.root 36 (rowsH s.heads), .root 40 (rowsD 70 s.descs)] rfl (by simp [keepsL, updH, HpE, rowsH_set, rowsD_turn, hbk]) rfl (by simp only [go_sem, Nat.reduceLT, Nat.reduceLeDiff, Nat.reduceEqDiff, Nat.reduceAdd, Nat.reduceMul, Nat.reduceSub, reduceCtorEq, vres]; rfl) (acc := []) rfl (by simp) rfl
  have p0q : (f.phase == 0) = false := by simpa using p0
  by_cases p1 : f.phase = 1
  · by_cases c1 : h.desc = f.desc
    · have hm : driveM s f k d e o h = (s, onwardM d.entries.length f 2, -1) := by rw [driveM, if_neg p0, if_pos p1, if_pos c1]
      rw [hm] at hr
      subst hr
      have c1q : (h.desc == (k : Int)) = true := by simp [c1, hk]
      have hnx := l7Next_ok s f 2 k d hk hd (by omega) (by omega) ⟨f1, f2, f3⟩
      unfold StoreD.cells FrameD.cells at hnx
      rw [hk, hj, p1] at hnx
      have F := And.intro @rowsD_len (And.intro @rowsE_len (And.intro @rowsH_len (And.intro hk (And.intro hj (And.intro hk0 (And.intro hj0 (And.intro ho0 (And.intro hkl (And.intro hjl (And.intro hol (And.intro hrd (And.intro hre (And.intro hrh (And.intro hkr (And.intro hor (And.intro (fun a => List.getElem?_set_self (a := a) hkr) (And.intro @List.length_set.{0} (And.intro @Nat.le_refl (And.intro p1 (And.intro c1q (And.intro hbk (And.intro @rowsE_take (And.intro @rowsH_pur (And.intro @rowsH_take (And.intro @rowsD_pur (And.intro @rowsD_take @List.set_set.{0}))))))))))))))))))))))))))
      repeat' first
        | refine wSq fun _ hK => ?_
        | (refine VWP_split_at (id := 1) [(1, k, 2)] (by simp only [go_sem, Nat.reduceLT, Nat.reduceLeDiff, Nat.reduceEqDiff, Nat.reduceAdd, Nat.reduceMul, Nat.reduceSub, reduceCtorEq, Int.reduceBEq, Int.reduceBNe, Int.reduceLT, Int.reduceLE, Int.reduceAdd, Int.reduceToNat, F, splits, splitH, merges, mergeH, List.set_set, List.set_cons_succ, List.set_cons_zero, List.getElem?_set_self, List.getElem?_cons_succ, List.getElem?_cons_zero, Nat.le_refl]; rfl) ?_)
        | (refine VWP_merge_at (id := 11) [(1, k, 2)] (by simp only [go_sem, Nat.reduceLT, Nat.reduceLeDiff, Nat.reduceEqDiff, Nat.reduceAdd, Nat.reduceMul, Nat.reduceSub, reduceCtorEq, Int.reduceBEq, Int.reduceBNe, Int.reduceLT, Int.reduceLE, Int.reduceAdd, Int.reduceToNat, F, splits, splitH, merges, mergeH, List.set_set, List.set_cons_succ, List.set_cons_zero, List.getElem?_set_self, List.getElem?_cons_succ, List.getElem?_cons_zero, Nat.le_refl]; rfl) ?_)
        | refine wRg ?_
        | refine wDr ?_
        | refine VWP_block ?_
        | refine VWP_skip ?_
        | refine VWP_exit ?_
        | refine VWP_ret ?_
        | (refine hK _ ?_; clear hK)
        | (clear hK; refine hK _ ?_; clear hK)
        | (clear hK; clear hK; refine hK _ ?_; clear hK)
        | (clear hK; clear hK; clear hK; refine hK _ ?_; clear hK)
        | (simp only [wHb, reduceCtorEq] at hb <;> try (exfalso; omega))
        | (refine VWP_cond2 true ?_ ?_ (fun hh => nomatch hh); focus (simp only [go_sem, Nat.reduceLT, Nat.reduceLeDiff, Nat.reduceEqDiff, Nat.reduceAdd, Nat.reduceMul, Nat.reduceSub, reduceCtorEq, Int.reduceBEq, Int.reduceBNe, Int.reduceLT, Int.reduceLE, Int.reduceAdd, Int.reduceToNat, F]; done); intro _)
        | (refine VWP_cond2 false ?_ (fun hh => nomatch hh) ?_; focus (simp only [go_sem, Nat.reduceLT, Nat.reduceLeDiff, Nat.reduceEqDiff, Nat.reduceAdd, Nat.reduceMul, Nat.reduceSub, reduceCtorEq, Int.reduceBEq, Int.reduceBNe, Int.reduceLT, Int.reduceLE, Int.reduceAdd, Int.reduceToNat, F]; done); intro _)
        | refine wCdx (fun hb => ?_) fun hb => ?_
        | refine wCax (c := by first | exact hnx) (k := ?_)
        | simp only [go_sem, Nat.reduceLT, Nat.reduceLeDiff, Nat.reduceEqDiff, Nat.reduceAdd, Nat.reduceMul, Nat.reduceSub, reduceCtorEq, Int.reduceBEq, Int.reduceBNe, Int.reduceLT, Int.reduceLE, Int.reduceAdd, Int.reduceToNat, F]
        | simp (disch := omega) only [decide_eq_true_eq, if_pos, if_neg, wrap_id, le_maxLen, and_true, true_and, if_true, ite_true]
        | refine wGdx (fun hb => ?_) fun hb => ?_
      refine retO_mk [] rfl [.root 36 (rowsH s.heads), .root 40 (rowsD 70 s.descs)] rfl (by simp [keepsL, updH, HpE, rowsH_set, rowsD_turn, hbk]) rfl (by simp only [go_sem, Nat.reduceLT, Nat.reduceLeDiff, Nat.reduceEqDiff, Nat.reduceAdd, Nat.reduceMul, Nat.reduceSub, reduceCtorEq, vres]; rfl) (acc := []) rfl (by simp) rfl
    have c1q : (h.desc == (k : Int)) = false := by rw [beq_eq_false_iff_ne, ← hk]; exact c1
    by_cases c2 : 0 ≤ h.desc
    · have hm : driveM s f k d e o h = (s, ⟨f.desc, 0, 0⟩, h.desc) := by rw [driveM, if_neg p0, if_pos p1, if_neg c1, if_pos c2]
      rw [hm] at hr
      subst hr
      have F := And.intro @rowsD_len (And.intro @rowsE_len (And.intro @rowsH_len (And.intro hk (And.intro hj (And.intro hk0 (And.intro hj0 (And.intro ho0 (And.intro hkl (And.intro hjl (And.intro hol (And.intro hrd (And.intro hre (And.intro hrh (And.intro hkr (And.intro hor (And.intro (fun a => List.getElem?_set_self (a := a) hkr) (And.intro @List.length_set.{0} (And.intro @Nat.le_refl (And.intro p1 (And.intro c1q (And.intro c2 (And.intro @vtree_done (And.intro @vtree_step (And.intro @vtreeO_some (And.intro @vtree_both @contT_at)))))))))))))))))))))))))
      repeat' first
        | refine wSq fun _ hK => ?_
        | (refine VWP_split_at (id := 1) [(1, k, 2)] (by simp only [go_sem, Nat.reduceLT, Nat.reduceLeDiff, Nat.reduceEqDiff, Nat.reduceAdd, Nat.reduceMul, Nat.reduceSub, reduceCtorEq, Int.reduceBEq, Int.reduceBNe, Int.reduceLT, Int.reduceLE, Int.reduceAdd, Int.reduceToNat, F, splits, splitH, merges, mergeH, List.set_set, List.set_cons_succ, List.set_cons_zero, List.getElem?_set_self, List.getElem?_cons_succ, List.getElem?_cons_zero, Nat.le_refl]; rfl) ?_)
        | refine wRg ?_
        | refine VWP_orders hT hM (id := 13) (.both (.step 0 (.both (.step 1 (.both (.step 2 (.both (.step 3 (.both (.step 4 (.step 5 (.step 6 .done))) (.step 5 (.step 4 (.step 6 .done))))) (.step 5 (.step 3 (.step 4 (.step 6 .done)))))) (.step 3 (.both (.step 2 (.both (.step 4 (.step 5 (.step 6 .done))) (.step 5 (.step 4 (.step 6 .done))))) (.step 4 (.step 2 (.step 5 (.step 6 .done)))))))) (.step 3 (.both (.step 1 (.both (.step 2 (.both (.step 4 (.step 5 (.step 6 .done))) (.step 5 (.step 4 (.step 6 .done))))) (.step 4 (.step 2 (.step 5 (.step 6 .done)))))) (.step 4 (.step 1 (.step 2 (.step 5 (.step 6 .done))))))))) (.step 3 (.both (.step 0 (.both (.step 1 (.both (.step 2 (.both (.step 4 (.step 5 (.step 6 .done))) (.step 5 (.step 4 (.step 6 .done))))) (.step 4 (.step 2 (.step 5 (.step 6 .done)))))) (.step 4 (.step 1 (.step 2 (.step 5 (.step 6 .done))))))) (.step 4 (.step 0 (.step 1 (.step 2 (.step 5 (.step 6 .done))))))))) (by kernel_rfl) ?_
        | refine And.intro ?_ ?_
        | refine wDr ?_
        | refine VWP_block ?_
        | refine VWP_skip ?_
        | refine VWP_exit ?_
        | refine VWP_ret ?_
        | (refine hK _ ?_; clear hK)
        | (clear hK; refine hK _ ?_; clear hK)
        | (clear hK; clear hK; refine hK _ ?_; clear hK)
        | (clear hK; clear hK; clear hK; refine hK _ ?_; clear hK)
        | (simp only [wHb, reduceCtorEq] at hb <;> try (exfalso; omega))
        | (refine VWP_cond2 true ?_ ?_ (fun hh => nomatch hh); focus (simp only [go_sem, Nat.reduceLT, Nat.reduceLeDiff, Nat.reduceEqDiff, Nat.reduceAdd, Nat.reduceMul, Nat.reduceSub, reduceCtorEq, Int.reduceBEq, Int.reduceBNe, Int.reduceLT, Int.reduceLE, Int.reduceAdd, Int.reduceToNat, F]; done); intro _)
        | (refine VWP_cond2 false ?_ (fun hh => nomatch hh) ?_; focus (simp only [go_sem, Nat.reduceLT, Nat.reduceLeDiff, Nat.reduceEqDiff, Nat.reduceAdd, Nat.reduceMul, Nat.reduceSub, reduceCtorEq, Int.reduceBEq, Int.reduceBNe, Int.reduceLT, Int.reduceLE, Int.reduceAdd, Int.reduceToNat, F]; done); intro _)
        | refine wCdx (fun hb => ?_) fun hb => ?_
        | simp only [go_sem, Nat.reduceLT, Nat.reduceLeDiff, Nat.reduceEqDiff, Nat.reduceAdd, Nat.reduceMul, Nat.reduceSub, reduceCtorEq, Int.reduceBEq, Int.reduceBNe, Int.reduceLT, Int.reduceLE, Int.reduceAdd, Int.reduceToNat, F]
        | simp (disch := omega) only [decide_eq_true_eq, if_pos, if_neg, wrap_id, le_maxLen, and_true, true_and, if_true, ite_true]
        | refine wGdx (fun hb => ?_) fun hb => ?_
      all_goals refine retO_mk [(1, k, 2)] (by simp only [merges, mergeH, go_sem, Nat.reduceLT, Nat.reduceLeDiff, Nat.reduceEqDiff, Nat.reduceAdd, Nat.reduceMul, Nat.reduceSub, reduceCtorEq, hkr, List.getElem?_set_self hkr, List.set_set, List.length_set, List.set_cons_succ, List.set_cons_zero, rowsE_len, rowsE_take, Nat.le_refl, hbk, rowsD_turn]; rfl) [.root 36 (rowsH s.heads), .root 40 (rowsD 70 s.descs)] rfl (by simp [keepsL, updH, HpE, rowsH_set, rowsD_turn, hbk]) rfl (by simp only [go_sem, Nat.reduceLT, Nat.reduceLeDiff, Nat.reduceEqDiff, Nat.reduceAdd, Nat.reduceMul, Nat.reduceSub, reduceCtorEq, vres]; rfl) (acc := []) rfl (by simp) rfl
    have c2q : decide (0 ≤ h.desc) = false := decide_eq_false c2
    by_cases c3 : h.version = e.version
    · have hm : driveM s f k d e o h = (⟨s.heads.set o ⟨h.value, h.version, f.desc⟩, s.descs⟩, onwardM d.entries.length f 2, -1) := by rw [driveM, if_neg p0, if_pos p1, if_neg c1, if_neg c2, if_neg (by simp [c3])]
      rw [hm] at hr
      subst hr
      have c3q : (h.version != e.version) = false := by simp [c3]
      have hnx := l7Next_ok ⟨s.heads.set o ⟨h.value, h.version, f.desc⟩, s.descs⟩ f 2 k d hk hd (by omega) (by omega) ⟨by simpa using f1, f2, f3⟩
      unfold StoreD.cells FrameD.cells at hnx
      simp only at hnx
      rw [hk, hj, p1] at hnx
      have hset := rowsH_set s.heads o ⟨h.value, h.version, (k : Int)⟩
      simp only at hset
      have hpr := rowsH_pur (s.heads.set o ⟨h.value, h.version, (k : Int)⟩)
      have htk : (rowsH (s.heads.set o ⟨h.value, h.version, (k : Int)⟩)).take s.heads.length = rowsH (s.heads.set o ⟨h.value, h.version, (k : Int)⟩) := by
        have := rowsH_take (s.heads.set o ⟨h.value, h.version, (k : Int)⟩)
        rwa [List.length_set] at this
      simp only [hk]
      have F := And.intro @rowsD_len (And.intro @rowsE_len (And.intro @rowsH_len (And.intro hk (And.intro hj (And.intro hk0 (And.intro hj0 (And.intro ho0 (And.intro hkl (And.intro hjl (And.intro hol (And.intro hrd (And.intro hre (And.intro hrh (And.intro hkr (And.intro hor (And.intro (fun a => List.getElem?_set_self (a := a) hkr) (And.intro @List.length_set.{0} (And.intro @Nat.le_refl (And.intro p1 (And.intro c1q (And.intro c2q (And.intro c3q (And.intro hbk (And.intro @rowsE_take (And.intro hpr (And.intro htk (And.intro @rowsD_pur (And.intro @rowsD_take (And.intro @List.set_set.{0} (And.intro hset (And.intro @vtree_done (And.intro @vtree_step (And.intro @vtreeO_some (And.intro @vtree_both @contT_at))))))))))))))))))))))))))))))))))
      repeat' first
        | refine wSq fun _ hK => ?_
        | (refine VWP_split_at (id := 1) [(1, k, 2)] (by simp only [go_sem, Nat.reduceLT, Nat.reduceLeDiff, Nat.reduceEqDiff, Nat.reduceAdd, Nat.reduceMul, Nat.reduceSub, reduceCtorEq, Int.reduceBEq, Int.reduceBNe, Int.reduceLT, Int.reduceLE, Int.reduceAdd, Int.reduceToNat, F, splits, splitH, merges, mergeH, List.set_set, List.set_cons_succ, List.set_cons_zero, List.getElem?_set_self, List.getElem?_cons_succ, List.getElem?_cons_zero, Nat.le_refl]; rfl) ?_)
        | (refine VWP_merge_at (id := 17) [(1, k, 2)] (by simp only [go_sem, Nat.reduceLT, Nat.reduceLeDiff, Nat.reduceEqDiff, Nat.reduceAdd, Nat.reduceMul, Nat.reduceSub, reduceCtorEq, Int.reduceBEq, Int.reduceBNe, Int.reduceLT, Int.reduceLE, Int.reduceAdd, Int.reduceToNat, F, splits, splitH, merges, mergeH, List.set_set, List.set_cons_succ, List.set_cons_zero, List.getElem?_set_self, List.getElem?_cons_succ, List.getElem?_cons_zero, Nat.le_refl]; rfl) ?_)
        | refine wRg ?_
        | refine VWP_orders hT hM (id := 13) (.both (.step 0 (.both (.step 1 (.both (.step 2 (.both (.step 3 (.both (.step 4 (.step 5 (.step 6 .done))) (.step 5 (.step 4 (.step 6 .done))))) (.step 5 (.step 3 (.step 4 (.step 6 .done)))))) (.step 3 (.both (.step 2 (.both (.step 4 (.step 5 (.step 6 .done))) (.step 5 (.step 4 (.step 6 .done))))) (.step 4 (.step 2 (.step 5 (.step 6 .done)))))))) (.step 3 (.both (.step 1 (.both (.step 2 (.both (.step 4 (.step 5 (.step 6 .done))) (.step 5 (.step 4 (.step 6 .done))))) (.step 4 (.step 2 (.step 5 (.step 6 .done)))))) (.step 4 (.step 1 (.step 2 (.step 5 (.step 6 .done))))))))) (.step 3 (.both (.step 0 (.both (.step 1 (.both (.step 2 (.both (.step 4 (.step 5 (.step 6 .done))) (.step 5 (.step 4 (.step 6 .done))))) (.step 4 (.step 2 (.step 5 (.step 6 .done)))))) (.step 4 (.step 1 (.step 2 (.step 5 (.step 6 .done))))))) (.step 4 (.step 0 (.step 1 (.step 2 (.step 5 (.step 6 .done))))))))) (by kernel_rfl) ?_
        | refine And.intro ?_ ?_
        | refine wDr ?_
        | refine VWP_block ?_
        | refine VWP_skip ?_
        | refine VWP_exit ?_
        | refine VWP_ret ?_
        | (refine hK _ ?_; clear hK)
        | (clear hK; refine hK _ ?_; clear hK)
        | (clear hK; clear hK; refine hK _ ?_; clear hK)
        | (clear hK; clear hK; clear hK; refine hK _ ?_; clear hK)
        | (simp only [wHb, reduceCtorEq] at hb <;> try (exfalso; omega))
        | (refine VWP_cond2 true ?_ ?_ (fun hh => nomatch hh); focus (simp only [go_sem, Nat.reduceLT, Nat.reduceLeDiff, Nat.reduceEqDiff, Nat.reduceAdd, Nat.reduceMul, Nat.reduceSub, reduceCtorEq, Int.reduceBEq, Int.reduceBNe, Int.reduceLT, Int.reduceLE, Int.reduceAdd, Int.reduceToNat, F]; done); intro _)
        | (refine VWP_cond2 false ?_ (fun hh => nomatch hh) ?_; focus (simp only [go_sem, Nat.reduceLT, Nat.reduceLeDiff, Nat.reduceEqDiff, Nat.reduceAdd, Nat.reduceMul, Nat.reduceSub, reduceCtorEq, Int.reduceBEq, Int.reduceBNe, Int.reduceLT, Int.reduceLE, Int.reduceAdd, Int.reduceToNat, F]; done); intro _)
        | refine wCdx (fun hb => ?_) fun hb => ?_
        | refine wCax (c := by first | exact hnx) (k := ?_)
        | simp only [go_sem, Nat.reduceLT, Nat.reduceLeDiff, Nat.reduceEqDiff, Nat.reduceAdd, Nat.reduceMul, Nat.reduceSub, reduceCtorEq, Int.reduceBEq, Int.reduceBNe, Int.reduceLT, Int.reduceLE, Int.reduceAdd, Int.reduceToNat, F]
        | simp (disch := omega) only [decide_eq_true_eq, if_pos, if_neg, wrap_id, le_maxLen, and_true, true_and, if_true, ite_true]
        | refine wGdx (fun hb => ?_) fun hb => ?_
      refine retO_mk [] rfl [.root 36 (rowsH (s.heads.set o ⟨h.value, h.version, (k : Int)⟩)), .root 40 (rowsD 70 s.descs)] rfl (by simp [keepsL, updH, HpE, rowsH_set, rowsD_turn, hbk]) rfl (by simp only [go_sem, Nat.reduceLT, Nat.reduceLeDiff, Nat.reduceEqDiff, Nat.reduceAdd, Nat.reduceMul, Nat.reduceSub, reduceCtorEq, vres]; rfl) (acc := []) rfl (by simp) rfl
    · have hm : driveM s f k d e o h = (s, ⟨f.desc, 3, 0⟩, -1) := by rw [driveM, if_neg p0, if_pos p1, if_neg c1, if_neg c2, if_pos c3]
      rw [hm] at hr
      subst hr
      have c3q : (h.version != e.version) = true := by simpa using c3
      have F := And.intro @rowsD_len (And.intro @rowsE_len (And.intro @rowsH_len (And.intro hk (And.intro hj (And.intro hk0 (And.intro hj0 (And.intro ho0 (And.intro hkl (And.intro hjl (And.intro hol (And.intro hrd (And.intro hre (And.intro hrh (And.intro hkr (And.intro hor (And.intro (fun a => List.getElem?_set_self (a := a) hkr) (And.intro @List.length_set.{0} (And.intro @Nat.le_refl (And.intro p1 (And.intro c1q (And.intro c2q (And.intro c3q (And.intro @vtree_done (And.intro @vtree_step (And.intro @vtreeO_some (And.intro @vtree_both @contT_at))))))))))))))))))))))))))
      repeat' first
        | refine wSq fun _ hK => ?_
        | (refine VWP_split_at (id := 1) [(1, k, 2)] (by simp only [go_sem, Nat.reduceLT, Nat.reduceLeDiff, Nat.reduceEqDiff, Nat.reduceAdd, Nat.reduceMul, Nat.reduceSub, reduceCtorEq, Int.reduceBEq, Int.reduceBNe, Int.reduceLT, Int.reduceLE, Int.reduceAdd, Int.reduceToNat, F, splits, splitH, merges, mergeH, List.set_set, List.set_cons_succ, List.set_cons_zero, List.getElem?_set_self, List.getElem?_cons_succ, List.getElem?_cons_zero, Nat.le_refl]; rfl) ?_)
        | refine wRg ?_
        | refine VWP_orders hT hM (id := 13) (.both (.step 0 (.both (.step 1 (.both (.step 2 (.both (.step 3 (.both (.step 4 (.step 5 (.step 6 .done))) (.step 5 (.step 4 (.step 6 .done))))) (.step 5 (.step 3 (.step 4 (.step 6 .done)))))) (.step 3 (.both (.step 2 (.both (.step 4 (.step 5 (.step 6 .done))) (.step 5 (.step 4 (.step 6 .done))))) (.step 4 (.step 2 (.step 5 (.step 6 .done)))))))) (.step 3 (.both (.step 1 (.both (.step 2 (.both (.step 4 (.step 5 (.step 6 .done))) (.step 5 (.step 4 (.step 6 .done))))) (.step 4 (.step 2 (.step 5 (.step 6 .done)))))) (.step 4 (.step 1 (.step 2 (.step 5 (.step 6 .done))))))))) (.step 3 (.both (.step 0 (.both (.step 1 (.both (.step 2 (.both (.step 4 (.step 5 (.step 6 .done))) (.step 5 (.step 4 (.step 6 .done))))) (.step 4 (.step 2 (.step 5 (.step 6 .done)))))) (.step 4 (.step 1 (.step 2 (.step 5 (.step 6 .done))))))) (.step 4 (.step 0 (.step 1 (.step 2 (.step 5 (.step 6 .done))))))))) (by kernel_rfl) ?_
        | refine And.intro ?_ ?_
        | refine wDr ?_
        | refine VWP_block ?_
        | refine VWP_skip ?_
        | refine VWP_exit ?_
        | refine VWP_ret ?_
        | (refine hK _ ?_; clear hK)
        | (clear hK; refine hK _ ?_; clear hK)
        | (clear hK; clear hK; refine hK _ ?_; clear hK)
        | (clear hK; clear hK; clear hK; refine hK _ ?_; clear hK)
        | (simp only [wHb, reduceCtorEq] at hb <;> try (exfalso; omega))
        | (refine VWP_cond2 true ?_ ?_ (fun hh => nomatch hh); focus (simp only [go_sem, Nat.reduceLT, Nat.reduceLeDiff, Nat.reduceEqDiff, Nat.reduceAdd, Nat.reduceMul, Nat.reduceSub, reduceCtorEq, Int.reduceBEq, Int.reduceBNe, Int.reduceLT, Int.reduceLE, Int.reduceAdd, Int.reduceToNat, F]; done); intro _)
        | (refine VWP_cond2 false ?_ (fun hh => nomatch hh) ?_; focus (simp only [go_sem, Nat.reduceLT, Nat.reduceLeDiff, Nat.reduceEqDiff, Nat.reduceAdd, Nat.reduceMul, Nat.reduceSub, reduceCtorEq, Int.reduceBEq, Int.reduceBNe, Int.reduceLT, Int.reduceLE, Int.reduceAdd, Int.reduceToNat, F]; done); intro _)
        | refine wCdx (fun hb => ?_) fun hb => ?_
        | simp only [go_sem, Nat.reduceLT, Nat.reduceLeDiff, Nat.reduceEqDiff, Nat.reduceAdd, Nat.reduceMul, Nat.reduceSub, reduceCtorEq, Int.reduceBEq, Int.reduceBNe, Int.reduceLT, Int.reduceLE, Int.reduceAdd, Int.reduceToNat, F]
        | simp (disch := omega) only [decide_eq_true_eq, if_pos, if_neg, wrap_id, le_maxLen, and_true, true_and, if_true, ite_true]
        | refine wGdx (fun hb => ?_) fun hb => ?_
      refine retO_mk [(1, k, 2)] (by simp only [merges, mergeH, go_sem, Nat.reduceLT, Nat.reduceLeDiff, Nat.reduceEqDiff, Nat.reduceAdd, Nat.reduceMul, Nat.reduceSub, reduceCtorEq, hkr, List.getElem?_set_self hkr, List.set_set, List.length_set, List.set_cons_succ, List.set_cons_zero, rowsE_len, rowsE_take, Nat.le_refl, hbk, rowsD_turn]; rfl) [.root 36 (rowsH s.heads), .root 40 (rowsD 70 s.descs)] rfl (by simp [keepsL, updH, HpE, rowsH_set, rowsD_turn, hbk]) rfl (by simp only [go_sem, Nat.reduceLT, Nat.reduceLeDiff, Nat.reduceEqDiff, Nat.reduceAdd, Nat.reduceMul, Nat.reduceSub, reduceCtorEq, vres]; rfl) (acc := []) rfl (by simp) rfl
  have p1q : (f.phase == 1) = false := by simpa using p1
  by_cases p2 : f.phase = 2
  · by_cases st : d.status = 0
    · have hm : driveM s f k d e o h = (⟨s.heads, s.descs.set k ⟨d.owner, 1, d.entries⟩⟩, ⟨f.desc, 4, 0⟩, -1) := by rw [driveM, if_neg p0, if_neg p1, if_pos (.inl p2), if_pos st, if_pos p2]
      rw [hm] at hr
      subst hr
      have stq : (d.status == 0) = true := by simp [st]
      have F := And.intro @rowsD_len (And.intro @rowsE_len (And.intro @rowsH_len (And.intro hk (And.intro hj (And.intro hk0 (And.intro hj0 (And.intro ho0 (And.intro hkl (And.intro hjl (And.intro hol (And.intro hrd (And.intro hre (And.intro hrh (And.intro hkr (And.intro hor (And.intro (fun a => List.getElem?_set_self (a := a) hkr) (And.intro @List.length_set.{0} (And.intro @Nat.le_refl (And.intro p2 (And.intro stq (And.intro @List.set_set.{0} (And.intro @List.set_cons_succ.{0} @List.set_cons_zero.{0}))))))))))))))))))))))
      repeat' first
        | refine wSq fun _ hK => ?_
        | (refine VWP_split_at (id := 1) [(1, k, 2)] (by simp only [go_sem, Nat.reduceLT, Nat.reduceLeDiff, Nat.reduceEqDiff, Nat.reduceAdd, Nat.reduceMul, Nat.reduceSub, reduceCtorEq, Int.reduceBEq, Int.reduceBNe, Int.reduceLT, Int.reduceLE, Int.reduceAdd, Int.reduceToNat, F, splits, splitH, merges, mergeH, List.set_set, List.set_cons_succ, List.set_cons_zero, List.getElem?_set_self, List.getElem?_cons_succ, List.getElem?_cons_zero, Nat.le_refl]; rfl) ?_)
        | refine wRg ?_
        | refine wDr ?_
        | refine VWP_block ?_
        | refine VWP_skip ?_
        | refine VWP_exit ?_
        | refine VWP_ret ?_
        | (refine hK _ ?_; clear hK)
        | (clear hK; refine hK _ ?_; clear hK)
        | (clear hK; clear hK; refine hK _ ?_; clear hK)
        | (clear hK; clear hK; clear hK; refine hK _ ?_; clear hK)
        | (simp only [wHb, reduceCtorEq] at hb <;> try (exfalso; omega))
        | (refine VWP_cond2 true ?_ ?_ (fun hh => nomatch hh); focus (simp only [go_sem, Nat.reduceLT, Nat.reduceLeDiff, Nat.reduceEqDiff, Nat.reduceAdd, Nat.reduceMul, Nat.reduceSub, reduceCtorEq, Int.reduceBEq, Int.reduceBNe, Int.reduceLT, Int.reduceLE, Int.reduceAdd, Int.reduceToNat, F]; done); intro _)
        | (refine VWP_cond2 false ?_ (fun hh => nomatch hh) ?_; focus (simp only [go_sem, Nat.reduceLT, Nat.reduceLeDiff, Nat.reduceEqDiff, Nat.reduceAdd, Nat.reduceMul, Nat.reduceSub, reduceCtorEq, Int.reduceBEq, Int.reduceBNe, Int.reduceLT, Int.reduceLE, Int.reduceAdd, Int.reduceToNat, F]; done); intro _)
        | refine wCdx (fun hb => ?_) fun hb => ?_
        | simp only [go_sem, Nat.reduceLT, Nat.reduceLeDiff, Nat.reduceEqDiff, Nat.reduceAdd, Nat.reduceMul, Nat.reduceSub, reduceCtorEq, Int.reduceBEq, Int.reduceBNe, Int.reduceLT, Int.reduceLE, Int.reduceAdd, Int.reduceToNat, F]
        | simp (disch := omega) only [decide_eq_true_eq, if_pos, if_neg, wrap_id, le_maxLen, and_true, true_and, if_true, ite_true]
        | refine wGdx (fun hb => ?_) fun hb => ?_
      refine retO_mk [(1, k, 2)] (by simp only [merges, mergeH, go_sem, Nat.reduceLT, Nat.reduceLeDiff, Nat.reduceEqDiff, Nat.reduceAdd, Nat.reduceMul, Nat.reduceSub, reduceCtorEq, hkr, List.getElem?_set_self hkr, List.set_set, List.length_set, List.set_cons_succ, List.set_cons_zero, rowsE_len, rowsE_take, Nat.le_refl, hbk, rowsD_turn]; rfl) [.root 36 (rowsH s.heads), .root 40 (rowsD 70 (s.descs.set k ⟨d.owner, 1, d.entries⟩))] rfl (by simp [keepsL, updH, HpE, rowsH_set, rowsD_turn, hbk]) rfl (by simp only [go_sem, Nat.reduceLT, Nat.reduceLeDiff, Nat.reduceEqDiff, Nat.reduceAdd, Nat.reduceMul, Nat.reduceSub, reduceCtorEq, vres]; rfl) (acc := []) rfl (by simp) rfl
    · have hm : driveM s f k d e o h = (s, ⟨f.desc, 4, 0⟩, -1) := by rw [driveM, if_neg p0, if_neg p1, if_pos (.inl p2), if_neg st]
      rw [hm] at hr
      subst hr
      have stq : (d.status == 0) = false := by simpa using st
      have F := And.intro @rowsD_len (And.intro @rowsE_len (And.intro @rowsH_len (And.intro hk (And.intro hj (And.intro hk0 (And.intro hj0 (And.intro ho0 (And.intro hkl (And.intro hjl (And.intro hol (And.intro hrd (And.intro hre (And.intro hrh (And.intro hkr (And.intro hor (And.intro (fun a => List.getElem?_set_self (a := a) hkr) (And.intro @List.length_set.{0} (And.intro @Nat.le_refl (And.intro p2 stq)))))))))))))))))))
      repeat' first
        | refine wSq fun _ hK => ?_
        | (refine VWP_split_at (id := 1) [(1, k, 2)] (by simp only [go_sem, Nat.reduceLT, Nat.reduceLeDiff, Nat.reduceEqDiff, Nat.reduceAdd, Nat.reduceMul, Nat.reduceSub, reduceCtorEq, Int.reduceBEq, Int.reduceBNe, Int.reduceLT, Int.reduceLE, Int.reduceAdd, Int.reduceToNat, F, splits, splitH, merges, mergeH, List.set_set, List.set_cons_succ, List.set_cons_zero, List.getElem?_set_self, List.getElem?_cons_succ, List.getElem?_cons_zero, Nat.le_refl]; rfl) ?_)
        | refine wRg ?_
        | refine wDr ?_
        | refine VWP_block ?_
        | refine VWP_skip ?_
        | refine VWP_exit ?_
        | refine VWP_ret ?_
        | (refine hK _ ?_; clear hK)
        | (clear hK; refine hK _ ?_; clear hK)
        | (clear hK; clear hK; refine hK _ ?_; clear hK)
        | (clear hK; clear hK; clear hK; refine hK _ ?_; clear hK)
        | (simp only [wHb, reduceCtorEq] at hb <;> try (exfalso; omega))
        | (refine VWP_cond2 true ?_ ?_ (fun hh => nomatch hh); focus (simp only [go_sem, Nat.reduceLT, Nat.reduceLeDiff, Nat.reduceEqDiff, Nat.reduceAdd, Nat.reduceMul, Nat.reduceSub, reduceCtorEq, Int.reduceBEq, Int.reduceBNe, Int.reduceLT, Int.reduceLE, Int.reduceAdd, Int.reduceToNat, F]; done); intro _)
        | (refine VWP_cond2 false ?_ (fun hh => nomatch hh) ?_; focus (simp only [go_sem, Nat.reduceLT, Nat.reduceLeDiff, Nat.reduceEqDiff, Nat.reduceAdd, Nat.reduceMul, Nat.reduceSub, reduceCtorEq, Int.reduceBEq, Int.reduceBNe, Int.reduceLT, Int.reduceLE, Int.reduceAdd, Int.reduceToNat, F]; done); intro _)
        | refine wCdx (fun hb => ?_) fun hb => ?_
        | simp only [go_sem, Nat.reduceLT, Nat.reduceLeDiff, Nat.reduceEqDiff, Nat.reduceAdd, Nat.reduceMul, Nat.reduceSub, reduceCtorEq, Int.reduceBEq, Int.reduceBNe, Int.reduceLT, Int.reduceLE, Int.reduceAdd, Int.reduceToNat, F]
        | simp (disch := omega) only [decide_eq_true_eq, if_pos, if_neg, wrap_id, le_maxLen, and_true, true_and, if_true, ite_true]
        | refine wGdx (fun hb => ?_) fun hb => ?_
      refine retO_mk [(1, k, 2)] (by simp only [merges, mergeH, go_sem, Nat.reduceLT, Nat.reduceLeDiff, Nat.reduceEqDiff, Nat.reduceAdd, Nat.reduceMul, Nat.reduceSub, reduceCtorEq, hkr, List.getElem?_set_self hkr, List.set_set, List.length_set, List.set_cons_succ, List.set_cons_zero, rowsE_len, rowsE_take, Nat.le_refl, hbk, rowsD_turn]; rfl) [.root 36 (rowsH s.heads), .root 40 (rowsD 70 s.descs)] rfl (by simp [keepsL, updH, HpE, rowsH_set, rowsD_turn, hbk]) rfl (by simp only [go_sem, Nat.reduceLT, Nat.reduceLeDiff, Nat.reduceEqDiff, Nat.reduceAdd, Nat.reduceMul, Nat.reduceSub, reduceCtorEq, vres]; rfl) (acc := []) rfl (by simp) rfl
  have p2q : (f.phase == 2) = false := by simpa using p2
  by_cases p3 : f.phase = 3
  · by_cases st : d.status = 0
    · have hm : driveM s f k d e o h = (⟨s.heads, s.descs.set k ⟨d.owner, 2, d.entries⟩⟩, ⟨f.desc, 4, 0⟩, -1) := by rw [driveM, if_neg p0, if_neg p1, if_pos (.inr p3), if_pos st, if_neg p2]
      rw [hm] at hr
      subst hr
      have stq : (d.status == 0) = true := by simp [st]
      have F := And.intro @rowsD_len (And.intro @rowsE_len (And.intro @rowsH_len (And.intro hk (And.intro hj (And.intro hk0 (And.intro hj0 (And.intro ho0 (And.intro hkl (And.intro hjl (And.intro hol (And.intro hrd (And.intro hre (And.intro hrh (And.intro hkr (And.intro hor (And.intro (fun a => List.getElem?_set_self (a := a) hkr) (And.intro @List.length_set.{0} (And.intro @Nat.le_refl (And.intro p3 (And.intro stq (And.intro @List.set_set.{0} (And.intro @List.set_cons_succ.{0} @List.set_cons_zero.{0}))))))))))))))))))))))
      repeat' first
        | refine wSq fun _ hK => ?_
        | (refine VWP_split_at (id := 1) [(1, k, 2)] (by simp only [go_sem, Nat.reduceLT, Nat.reduceLeDiff, Nat.reduceEqDiff, Nat.reduceAdd, Nat.reduceMul, Nat.reduceSub, reduceCtorEq, Int.reduceBEq, Int.reduceBNe, Int.reduceLT, Int.reduceLE, Int.reduceAdd, Int.reduceToNat, F, splits, splitH, merges, mergeH, List.set_set, List.set_cons_succ, List.set_cons_zero, List.getElem?_set_self, List.getElem?_cons_succ, List.getElem?_cons_zero, Nat.le_refl]; rfl) ?_)
        | refine wRg ?_
        | refine wDr ?_
        | refine VWP_block ?_
        | refine VWP_skip ?_
        | refine VWP_exit ?_
        | refine VWP_ret ?_
        | (refine hK _ ?_; clear hK)
        | (clear hK; refine hK _ ?_; clear hK)
        | (clear hK; clear hK; refine hK _ ?_; clear hK)
        | (clear hK; clear hK; clear hK; refine hK _ ?_; clear hK)
        | (simp only [wHb, reduceCtorEq] at hb <;> try (exfalso; omega))
        | (refine VWP_cond2 true ?_ ?_ (fun hh => nomatch hh); focus (simp only [go_sem, Nat.reduceLT, Nat.reduceLeDiff, Nat.reduceEqDiff, Nat.reduceAdd, Nat.reduceMul, Nat.reduceSub, reduceCtorEq, Int.reduceBEq, Int.reduceBNe, Int.reduceLT, Int.reduceLE, Int.reduceAdd, Int.reduceToNat, F]; done); intro _)
        | (refine VWP_cond2 false ?_ (fun hh => nomatch hh) ?_; focus (simp only [go_sem, Nat.reduceLT, Nat.reduceLeDiff, Nat.reduceEqDiff, Nat.reduceAdd, Nat.reduceMul, Nat.reduceSub, reduceCtorEq, Int.reduceBEq, Int.reduceBNe, Int.reduceLT, Int.reduceLE, Int.reduceAdd, Int.reduceToNat, F]; done); intro _)
        | refine wCdx (fun hb => ?_) fun hb => ?_
        | simp only [go_sem, Nat.reduceLT, Nat.reduceLeDiff, Nat.reduceEqDiff, Nat.reduceAdd, Nat.reduceMul, Nat.reduceSub, reduceCtorEq, Int.reduceBEq, Int.reduceBNe, Int.reduceLT, Int.reduceLE, Int.reduceAdd, Int.reduceToNat, F]
        | simp (disch := omega) only [decide_eq_true_eq, if_pos, if_neg, wrap_id, le_maxLen, and_true, true_and, if_true, ite_true]
        | refine wGdx (fun hb => ?_) fun hb => ?_
      refine retO_mk [(1, k, 2)] (by simp only [merges, mergeH, go_sem, Nat.reduceLT, Nat.reduceLeDiff, Nat.reduceEqDiff, Nat.reduceAdd, Nat.reduceMul, Nat.reduceSub, reduceCtorEq, hkr, List.getElem?_set_self hkr, List.set_set, List.length_set, List.set_cons_succ, List.set_cons_zero, rowsE_len, rowsE_take, Nat.le_refl, hbk, rowsD_turn]; rfl) [.root 36 (rowsH s.heads), .root 40 (rowsD 70 (s.descs.set k ⟨d.owner, 2, d.entries⟩))] rfl (by simp [keepsL, updH, HpE, rowsH_set, rowsD_turn, hbk]) rfl (by simp only [go_sem, Nat.reduceLT, Nat.reduceLeDiff, Nat.reduceEqDiff, Nat.reduceAdd, Nat.reduceMul, Nat.reduceSub, reduceCtorEq, vres]; rfl) (acc := []) rfl (by simp) rfl
    · have hm : driveM s f k d e o h = (s, ⟨f.desc, 4, 0⟩, -1) := by rw [driveM, if_neg p0, if_neg p1, if_pos (.inr p3), if_neg st]
      rw [hm] at hr
      subst hr
      have stq : (d.status == 0) = false := by simpa using st
      have F := And.intro @rowsD_len (And.intro @rowsE_len (And.intro @rowsH_len (And.intro hk (And.intro hj (And.intro hk0 (And.intro hj0 (And.intro ho0 (And.intro hkl (And.intro hjl (And.intro hol (And.intro hrd (And.intro hre (And.intro hrh (And.intro hkr (And.intro hor (And.intro (fun a => List.getElem?_set_self (a := a) hkr) (And.intro @List.length_set.{0} (And.intro @Nat.le_refl (And.intro p3 stq)))))))))))))))))))
      repeat' first
        | refine wSq fun _ hK => ?_
        | (refine VWP_split_at (id := 1) [(1, k, 2)] (by simp only [go_sem, Nat.reduceLT, Nat.reduceLeDiff, Nat.reduceEqDiff, Nat.reduceAdd, Nat.reduceMul, Nat.reduceSub, reduceCtorEq, Int.reduceBEq, Int.reduceBNe, Int.reduceLT, Int.reduceLE, Int.reduceAdd, Int.reduceToNat, F, splits, splitH, merges, mergeH, List.set_set, List.set_cons_succ, List.set_cons_zero, List.getElem?_set_self, List.getElem?_cons_succ, List.getElem?_cons_zero, Nat.le_refl]; rfl) ?_)
        | refine wRg ?_
        | refine wDr ?_
        | refine VWP_block ?_
        | refine VWP_skip ?_
        | refine VWP_exit ?_
        | refine VWP_ret ?_
        | (refine hK _ ?_; clear hK)
        | (clear hK; refine hK _ ?_; clear hK)
        | (clear hK; clear hK; refine hK _ ?_; clear hK)
        | (clear hK; clear hK; clear hK; refine hK _ ?_; clear hK)
        | (simp only [wHb, reduceCtorEq] at hb <;> try (exfalso; omega))
        | (refine VWP_cond2 true ?_ ?_ (fun hh => nomatch hh); focus (simp only [go_sem, Nat.reduceLT, Nat.reduceLeDiff, Nat.reduceEqDiff, Nat.reduceAdd, Nat.reduceMul, Nat.reduceSub, reduceCtorEq, Int.reduceBEq, Int.reduceBNe, Int.reduceLT, Int.reduceLE, Int.reduceAdd, Int.reduceToNat, F]; done); intro _)
        | (refine VWP_cond2 false ?_ (fun hh => nomatch hh) ?_; focus (simp only [go_sem, Nat.reduceLT, Nat.reduceLeDiff, Nat.reduceEqDiff, Nat.reduceAdd, Nat.reduceMul, Nat.reduceSub, reduceCtorEq, Int.reduceBEq, Int.reduceBNe, Int.reduceLT, Int.reduceLE, Int.reduceAdd, Int.reduceToNat, F]; done); intro _)
        | refine wCdx (fun hb => ?_) fun hb => ?_
        | simp only [go_sem, Nat.reduceLT, Nat.reduceLeDiff, Nat.reduceEqDiff, Nat.reduceAdd, Nat.reduceMul, Nat.reduceSub, reduceCtorEq, Int.reduceBEq, Int.reduceBNe, Int.reduceLT, Int.reduceLE, Int.reduceAdd, Int.reduceToNat, F]
        | simp (disch := omega) only [decide_eq_true_eq, if_pos, if_neg, wrap_id, le_maxLen, and_true, true_and, if_true, ite_true]
        | refine wGdx (fun hb => ?_) fun hb => ?_
      refine retO_mk [(1, k, 2)] (by simp only [merges, mergeH, go_sem, Nat.reduceLT, Nat.reduceLeDiff, Nat.reduceEqDiff, Nat.reduceAdd, Nat.reduceMul, Nat.reduceSub, reduceCtorEq, hkr, List.getElem?_set_self hkr, List.set_set, List.length_set, List.set_cons_succ, List.set_cons_zero, rowsE_len, rowsE_take, Nat.le_refl, hbk, rowsD_turn]; rfl) [.root 36 (rowsH s.heads), .root 40 (rowsD 70 s.descs)] rfl (by simp [keepsL, updH, HpE, rowsH_set, rowsD_turn, hbk]) rfl (by simp only [go_sem, Nat.reduceLT, Nat.reduceLeDiff, Nat.reduceEqDiff, Nat.reduceAdd, Nat.reduceMul, Nat.reduceSub, reduceCtorEq, vres]; rfl) (acc := []) rfl (by simp) rfl
  have p3q : (f.phase == 3) = false := by simpa using p3
  by_cases p4 : f.phase = 4
  · by_cases c1 : h.desc = f.desc
    · have c1q : (h.desc == (k : Int)) = true := by simp [c1, hk]
      by_cases hcm : d.status = 1 ∧ e.write = true
      · have hm : driveM s f k d e o h = (⟨s.heads.set o ⟨e.new, (h.version + 1).tmod 1000001, -1⟩, s.descs⟩, onwardM d.entries.length f 5, -1) := by rw [driveM, if_neg p0, if_neg p1, if_neg (by omega), if_pos p4, if_pos c1, freeH, if_pos hcm]
        rw [hm] at hr
        subst hr
        obtain ⟨hs1, hwr⟩ := hcm
        have s1q : (d.status == 1) = true := by simp [hs1]
        rw [hwr] at hre
        have hset := rowsH_set s.heads o ⟨e.new, (h.version + 1).tmod 1000001, -1⟩
        simp only at hset
        have hpr := rowsH_pur (s.heads.set o ⟨e.new, (h.version + 1).tmod 1000001, -1⟩)
        have htk : (rowsH (s.heads.set o ⟨e.new, (h.version + 1).tmod 1000001, -1⟩)).take s.heads.length = rowsH (s.heads.set o ⟨e.new, (h.version + 1).tmod 1000001, -1⟩) := by
          have := rowsH_take (s.heads.set o ⟨e.new, (h.version + 1).tmod 1000001, -1⟩)
          rwa [List.length_set] at this
        have hnx := l7Next_ok ⟨s.heads.set o ⟨e.new, (h.version + 1).tmod 1000001, -1⟩, s.descs⟩ f 5 k d hk hd (by omega) (by omega) ⟨by simpa using f1, f2, f3⟩
        unfold StoreD.cells FrameD.cells at hnx
        simp only at hnx
        rw [hk, hj, p4] at hnx
        have hwv := wrap_id (x := h.version + 1) (by omega)
        have hwm : IntKind.i64.wrap ((h.version + 1).tmod 1000001) = (h.version + 1).tmod 1000001 := wrap_id (by have := Int.tmod_lt_of_pos (h.version + 1) (b := 1000001) (by omega); have := Int.tmod_nonneg (a := h.version + 1) 1000001 (by omega); omega)
        have F := And.intro @rowsD_len (And.intro @rowsE_len (And.intro @rowsH_len (And.intro hk (And.intro hj (And.intro hk0 (And.intro hj0 (And.intro ho0 (And.intro hkl (And.intro hjl (And.intro hol (And.intro hrd (And.intro hre (And.intro hrh (And.intro hkr (And.intro hor (And.intro (fun a => List.getElem?_set_self (a := a) hkr) (And.intro @List.length_set.{0} (And.intro @Nat.le_refl (And.intro p4 (And.intro c1q (And.intro s1q (And.intro hwv (And.intro hwm (And.intro hbk (And.intro @rowsE_take (And.intro hpr (And.intro htk (And.intro @rowsD_pur (And.intro @rowsD_take (And.intro @List.set_set.{0} hset))))))))))))))))))))))))))))))
        repeat' first
          | refine wSq fun _ hK => ?_
          | (refine VWP_split_at (id := 1) [(1, k, 2)] (by simp only [go_sem, Nat.reduceLT, Nat.reduceLeDiff, Nat.reduceEqDiff, Nat.reduceAdd, Nat.reduceMul, Nat.reduceSub, reduceCtorEq, Int.reduceBEq, Int.reduceBNe, Int.reduceLT, Int.reduceLE, Int.reduceAdd, Int.reduceToNat, F, splits, splitH, merges, mergeH, List.set_set, List.set_cons_succ, List.set_cons_zero, List.getElem?_set_self, List.getElem?_cons_succ, List.getElem?_cons_zero, Nat.le_refl]; rfl) ?_)
          | (refine VWP_merge_at (id := 32) [(1, k, 2)] (by simp only [go_sem, Nat.reduceLT, Nat.reduceLeDiff, Nat.reduceEqDiff, Nat.reduceAdd, Nat.reduceMul, Nat.reduceSub, reduceCtorEq, Int.reduceBEq, Int.reduceBNe, Int.reduceLT, Int.reduceLE, Int.reduceAdd, Int.reduceToNat, F, splits, splitH, merges, mergeH, List.set_set, List.set_cons_succ, List.set_cons_zero, List.getElem?_set_self, List.getElem?_cons_succ, List.getElem?_cons_zero, Nat.le_refl]; rfl) ?_)
          | refine wRg ?_
          | refine wDr ?_
          | refine VWP_block ?_
          | refine VWP_skip ?_
          | refine VWP_exit ?_
          | refine VWP_ret ?_
          | (refine hK _ ?_; clear hK)
          | (clear hK; refine hK _ ?_; clear hK)
          | (clear hK; clear hK; refine hK _ ?_; clear hK)
          | (clear hK; clear hK; clear hK; refine hK _ ?_; clear hK)
          | (simp only [wHb, reduceCtorEq] at hb <;> try (exfalso; omega))
          | (refine VWP_cond2 true ?_ ?_ (fun hh => nomatch hh); focus (simp only [go_sem, Nat.reduceLT, Nat.reduceLeDiff, Nat.reduceEqDiff, Nat.reduceAdd, Nat.reduceMul, Nat.reduceSub, reduceCtorEq, Int.reduceBEq, Int.reduceBNe, Int.reduceLT, Int.reduceLE, Int.reduceAdd, Int.reduceToNat, F]; done); intro _)
          | (refine VWP_cond2 false ?_ (fun hh => nomatch hh) ?_; focus (simp only [go_sem, Nat.reduceLT, Nat.reduceLeDiff, Nat.reduceEqDiff, Nat.reduceAdd, Nat.reduceMul, Nat.reduceSub, reduceCtorEq, Int.reduceBEq, Int.reduceBNe, Int.reduceLT, Int.reduceLE, Int.reduceAdd, Int.reduceToNat, F]; done); intro _)
          | refine wCdx (fun hb => ?_) fun hb => ?_
          | refine wCax (c := by first | exact hnx) (k := ?_)
          | simp only [go_sem, Nat.reduceLT, Nat.reduceLeDiff, Nat.reduceEqDiff, Nat.reduceAdd, Nat.reduceMul, Nat.reduceSub, reduceCtorEq, Int.reduceBEq, Int.reduceBNe, Int.reduceLT, Int.reduceLE, Int.reduceAdd, Int.reduceToNat, F]
          | simp (disch := omega) only [decide_eq_true_eq, if_pos, if_neg, wrap_id, le_maxLen, and_true, true_and, if_true, ite_true]
          | refine wGdx (fun hb => ?_) fun hb => ?_
        refine retO_mk [] rfl [.root 36 (rowsH (s.heads.set o ⟨e.new, (h.version + 1).tmod 1000001, -1⟩)), .root 40 (rowsD 70 s.descs)] rfl (by simp [keepsL, updH, HpE, rowsH_set, rowsD_turn, hbk]) rfl (by simp only [go_sem, Nat.reduceLT, Nat.reduceLeDiff, Nat.reduceEqDiff, Nat.reduceAdd, Nat.reduceMul, Nat.reduceSub, reduceCtorEq, vres]; rfl) (acc := []) rfl (by simp) rfl
      · have hm : driveM s f k d e o h = (⟨s.heads.set o ⟨h.value, h.version, -1⟩, s.descs⟩, onwardM d.entries.length f 5, -1) := by rw [driveM, if_neg p0, if_neg p1, if_neg (by omega), if_pos p4, if_pos c1, freeH, if_neg hcm]
        rw [hm] at hr
        subst hr
        have hset := rowsH_set s.heads o ⟨h.value, h.version, -1⟩
        simp only at hset
        have hpr := rowsH_pur (s.heads.set o ⟨h.value, h.version, -1⟩)
        have htk : (rowsH (s.heads.set o ⟨h.value, h.version, -1⟩)).take s.heads.length = rowsH (s.heads.set o ⟨h.value, h.version, -1⟩) := by
          have := rowsH_take (s.heads.set o ⟨h.value, h.version, -1⟩)
          rwa [List.length_set] at this
        have hnx := l7Next_ok ⟨s.heads.set o ⟨h.value, h.version, -1⟩, s.descs⟩ f 5 k d hk hd (by omega) (by omega) ⟨by simpa using f1, f2, f3⟩
        unfold StoreD.cells FrameD.cells at hnx
        simp only at hnx
        rw [hk, hj, p4] at hnx
        by_cases hs1 : d.status = 1
        · have s1q : (d.status == 1) = true := by simp [hs1]
          have hwf : e.write = false := by
            cases hwr : e.write with
            | true => exact absurd ⟨hs1, hwr⟩ hcm
            | false => rfl
          rw [hwf] at hre
          have F := And.intro @rowsD_len (And.intro @rowsE_len (And.intro @rowsH_len (And.intro hk (And.intro hj (And.intro hk0 (And.intro hj0 (And.intro ho0 (And.intro hkl (And.intro hjl (And.intro hol (And.intro hrd (And.intro hre (And.intro hrh (And.intro hkr (And.intro hor (And.intro (fun a => List.getElem?_set_self (a := a) hkr) (And.intro @List.length_set.{0} (And.intro @Nat.le_refl (And.intro p4 (And.intro c1q (And.intro s1q (And.intro hbk (And.intro @rowsE_take (And.intro hpr (And.intro htk (And.intro @rowsD_pur (And.intro @rowsD_take (And.intro @List.set_set.{0} hset))))))))))))))))))))))))))))
          repeat' first
            | refine wSq fun _ hK => ?_
            | (refine VWP_split_at (id := 1) [(1, k, 2)] (by simp only [go_sem, Nat.reduceLT, Nat.reduceLeDiff, Nat.reduceEqDiff, Nat.reduceAdd, Nat.reduceMul, Nat.reduceSub, reduceCtorEq, Int.reduceBEq, Int.reduceBNe, Int.reduceLT, Int.reduceLE, Int.reduceAdd, Int.reduceToNat, F, splits, splitH, merges, mergeH, List.set_set, List.set_cons_succ, List.set_cons_zero, List.getElem?_set_self, List.getElem?_cons_succ, List.getElem?_cons_zero, Nat.le_refl]; rfl) ?_)
            | (refine VWP_merge_at (id := 32) [(1, k, 2)] (by simp only [go_sem, Nat.reduceLT, Nat.reduceLeDiff, Nat.reduceEqDiff, Nat.reduceAdd, Nat.reduceMul, Nat.reduceSub, reduceCtorEq, Int.reduceBEq, Int.reduceBNe, Int.reduceLT, Int.reduceLE, Int.reduceAdd, Int.reduceToNat, F, splits, splitH, merges, mergeH, List.set_set, List.set_cons_succ, List.set_cons_zero, List.getElem?_set_self, List.getElem?_cons_succ, List.getElem?_cons_zero, Nat.le_refl]; rfl) ?_)
            | refine wRg ?_
            | refine wDr ?_
            | refine VWP_block ?_
            | refine VWP_skip ?_
            | refine VWP_exit ?_
            | refine VWP_ret ?_
            | (refine hK _ ?_; clear hK)
            | (clear hK; refine hK _ ?_; clear hK)
            | (clear hK; clear hK; refine hK _ ?_; clear hK)
            | (clear hK; clear hK; clear hK; refine hK _ ?_; clear hK)
            | (simp only [wHb, reduceCtorEq] at hb <;> try (exfalso; omega))
            | (refine VWP_cond2 true ?_ ?_ (fun hh => nomatch hh); focus (simp only [go_sem, Nat.reduceLT, Nat.reduceLeDiff, Nat.reduceEqDiff, Nat.reduceAdd, Nat.reduceMul, Nat.reduceSub, reduceCtorEq, Int.reduceBEq, Int.reduceBNe, Int.reduceLT, Int.reduceLE, Int.reduceAdd, Int.reduceToNat, F]; done); intro _)
            | (refine VWP_cond2 false ?_ (fun hh => nomatch hh) ?_; focus (simp only [go_sem, Nat.reduceLT, Nat.reduceLeDiff, Nat.reduceEqDiff, Nat.reduceAdd, Nat.reduceMul, Nat.reduceSub, reduceCtorEq, Int.reduceBEq, Int.reduceBNe, Int.reduceLT, Int.reduceLE, Int.reduceAdd, Int.reduceToNat, F]; done); intro _)
            | refine wCdx (fun hb => ?_) fun hb => ?_
            | refine wCax (c := by first | exact hnx) (k := ?_)
            | simp only [go_sem, Nat.reduceLT, Nat.reduceLeDiff, Nat.reduceEqDiff, Nat.reduceAdd, Nat.reduceMul, Nat.reduceSub, reduceCtorEq, Int.reduceBEq, Int.reduceBNe, Int.reduceLT, Int.reduceLE, Int.reduceAdd, Int.reduceToNat, F]
            | simp (disch := omega) only [decide_eq_true_eq, if_pos, if_neg, wrap_id, le_maxLen, and_true, true_and, if_true, ite_true]
            | refine wGdx (fun hb => ?_) fun hb => ?_
          refine retO_mk [] rfl [.root 36 (rowsH (s.heads.set o ⟨h.value, h.version, -1⟩)), .root 40 (rowsD 70 s.descs)] rfl (by simp [keepsL, updH, HpE, rowsH_set, rowsD_turn, hbk]) rfl (by simp only [go_sem, Nat.reduceLT, Nat.reduceLeDiff, Nat.reduceEqDiff, Nat.reduceAdd, Nat.reduceMul, Nat.reduceSub, reduceCtorEq, vres]; rfl) (acc := []) rfl (by simp) rfl
        · have s1q : (d.status == 1) = false := by simpa using hs1
          have F := And.intro @rowsD_len (And.intro @rowsE_len (And.intro @rowsH_len (And.intro hk (And.intro hj (And.intro hk0 (And.intro hj0 (And.intro ho0 (And.intro hkl (And.intro hjl (And.intro hol (And.intro hrd (And.intro hre (And.intro hrh (And.intro hkr (And.intro hor (And.intro (fun a => List.getElem?_set_self (a := a) hkr) (And.intro @List.length_set.{0} (And.intro @Nat.le_refl (And.intro p4 (And.intro c1q (And.intro s1q (And.intro hbk (And.intro @rowsE_take (And.intro hpr (And.intro htk (And.intro @rowsD_pur (And.intro @rowsD_take (And.intro @List.set_set.{0} hset))))))))))))))))))))))))))))
          repeat' first
            | refine wSq fun _ hK => ?_
            | (refine VWP_split_at (id := 1) [(1, k, 2)] (by simp only [go_sem, Nat.reduceLT, Nat.reduceLeDiff, Nat.reduceEqDiff, Nat.reduceAdd, Nat.reduceMul, Nat.reduceSub, reduceCtorEq, Int.reduceBEq, Int.reduceBNe, Int.reduceLT, Int.reduceLE, Int.reduceAdd, Int.reduceToNat, F, splits, splitH, merges, mergeH, List.set_set, List.set_cons_succ, List.set_cons_zero, List.getElem?_set_self, List.getElem?_cons_succ, List.getElem?_cons_zero, Nat.le_refl]; rfl) ?_)
            | (refine VWP_merge_at (id := 32) [(1, k, 2)] (by simp only [go_sem, Nat.reduceLT, Nat.reduceLeDiff, Nat.reduceEqDiff, Nat.reduceAdd, Nat.reduceMul, Nat.reduceSub, reduceCtorEq, Int.reduceBEq, Int.reduceBNe, Int.reduceLT, Int.reduceLE, Int.reduceAdd, Int.reduceToNat, F, splits, splitH, merges, mergeH, List.set_set, List.set_cons_succ, List.set_cons_zero, List.getElem?_set_self, List.getElem?_cons_succ, List.getElem?_cons_zero, Nat.le_refl]; rfl) ?_)
            | refine wRg ?_
            | refine wDr ?_
            | refine VWP_block ?_
            | refine VWP_skip ?_
            | refine VWP_exit ?_
            | refine VWP_ret ?_
            | (refine hK _ ?_; clear hK)
            | (clear hK; refine hK _ ?_; clear hK)
            | (clear hK; clear hK; refine hK _ ?_; clear hK)
            | (clear hK; clear hK; clear hK; refine hK _ ?_; clear hK)
            | (simp only [wHb, reduceCtorEq] at hb <;> try (exfalso; omega))
            | (refine VWP_cond2 true ?_ ?_ (fun hh => nomatch hh); focus (simp only [go_sem, Nat.reduceLT, Nat.reduceLeDiff, Nat.reduceEqDiff, Nat.reduceAdd, Nat.reduceMul, Nat.reduceSub, reduceCtorEq, Int.reduceBEq, Int.reduceBNe, Int.reduceLT, Int.reduceLE, Int.reduceAdd, Int.reduceToNat, F]; done); intro _)
            | (refine VWP_cond2 false ?_ (fun hh => nomatch hh) ?_; focus (simp only [go_sem, Nat.reduceLT, Nat.reduceLeDiff, Nat.reduceEqDiff, Nat.reduceAdd, Nat.reduceMul, Nat.reduceSub, reduceCtorEq, Int.reduceBEq, Int.reduceBNe, Int.reduceLT, Int.reduceLE, Int.reduceAdd, Int.reduceToNat, F]; done); intro _)
            | refine wCdx (fun hb => ?_) fun hb => ?_
            | refine wCax (c := by first | exact hnx) (k := ?_)
            | simp only [go_sem, Nat.reduceLT, Nat.reduceLeDiff, Nat.reduceEqDiff, Nat.reduceAdd, Nat.reduceMul, Nat.reduceSub, reduceCtorEq, Int.reduceBEq, Int.reduceBNe, Int.reduceLT, Int.reduceLE, Int.reduceAdd, Int.reduceToNat, F]
            | simp (disch := omega) only [decide_eq_true_eq, if_pos, if_neg, wrap_id, le_maxLen, and_true, true_and, if_true, ite_true]
            | refine wGdx (fun hb => ?_) fun hb => ?_
          refine retO_mk [] rfl [.root 36 (rowsH (s.heads.set o ⟨h.value, h.version, -1⟩)), .root 40 (rowsD 70 s.descs)] rfl (by simp [keepsL, updH, HpE, rowsH_set, rowsD_turn, hbk]) rfl (by simp only [go_sem, Nat.reduceLT, Nat.reduceLeDiff, Nat.reduceEqDiff, Nat.reduceAdd, Nat.reduceMul, Nat.reduceSub, reduceCtorEq, vres]; rfl) (acc := []) rfl (by simp) rfl
    · have hm : driveM s f k d e o h = (s, onwardM d.entries.length f 5, -1) := by rw [driveM, if_neg p0, if_neg p1, if_neg (by omega), if_pos p4, if_neg c1]
      rw [hm] at hr
      subst hr
      have c1q : (h.desc == (k : Int)) = false := by rw [beq_eq_false_iff_ne, ← hk]; exact c1
      have hnx := l7Next_ok s f 5 k d hk hd (by omega) (by omega) ⟨f1, f2, f3⟩
      unfold StoreD.cells FrameD.cells at hnx
      rw [hk, hj, p4] at hnx
      have F := And.intro @rowsD_len (And.intro @rowsE_len (And.intro @rowsH_len (And.intro hk (And.intro hj (And.intro hk0 (And.intro hj0 (And.intro ho0 (And.intro hkl (And.intro hjl (And.intro hol (And.intro hrd (And.intro hre (And.intro hrh (And.intro hkr (And.intro hor (And.intro (fun a => List.getElem?_set_self (a := a) hkr) (And.intro @List.length_set.{0} (And.intro @Nat.le_refl (And.intro p4 (And.intro c1q (And.intro hbk (And.intro @rowsE_take (And.intro @rowsH_pur (And.intro @rowsH_take (And.intro @rowsD_pur (And.intro @rowsD_take @List.set_set.{0}))))))))))))))))))))))))))
      repeat' first
        | refine wSq fun _ hK => ?_
        | (refine VWP_split_at (id := 1) [(1, k, 2)] (by simp only [go_sem, Nat.reduceLT, Nat.reduceLeDiff, Nat.reduceEqDiff, Nat.reduceAdd, Nat.reduceMul, Nat.reduceSub, reduceCtorEq, Int.reduceBEq, Int.reduceBNe, Int.reduceLT, Int.reduceLE, Int.reduceAdd, Int.reduceToNat, F, splits, splitH, merges, mergeH, List.set_set, List.set_cons_succ, List.set_cons_zero, List.getElem?_set_self, List.getElem?_cons_succ, List.getElem?_cons_zero, Nat.le_refl]; rfl) ?_)
        | (refine VWP_merge_at (id := 32) [(1, k, 2)] (by simp only [go_sem, Nat.reduceLT, Nat.reduceLeDiff, Nat.reduceEqDiff, Nat.reduceAdd, Nat.reduceMul, Nat.reduceSub, reduceCtorEq, Int.reduceBEq, Int.reduceBNe, Int.reduceLT, Int.reduceLE, Int.reduceAdd, Int.reduceToNat, F, splits, splitH, merges, mergeH, List.set_set, List.set_cons_succ, List.set_cons_zero, List.getElem?_set_self, List.getElem?_cons_succ, List.getElem?_cons_zero, Nat.le_refl]; rfl) ?_)
        | refine wRg ?_
        | refine wDr ?_
        | refine VWP_block ?_
        | refine VWP_skip ?_
        | refine VWP_exit ?_
        | refine VWP_ret ?_
        | (refine hK _ ?_; clear hK)
        | (clear hK; refine hK _ ?_; clear hK)
        | (clear hK; clear hK; refine hK _ ?_; clear hK)
        | (clear hK; clear hK; clear hK; refine hK _ ?_; clear hK)
        | (simp only [wHb, reduceCtorEq] at hb <;> try (exfalso; omega))
        | (refine VWP_cond2 true ?_ ?_ (fun hh => nomatch hh); focus (simp only [go_sem, Nat.reduceLT, Nat.reduceLeDiff, Nat.reduceEqDiff, Nat.reduceAdd, Nat.reduceMul, Nat.reduceSub, reduceCtorEq, Int.reduceBEq, Int.reduceBNe, Int.reduceLT, Int.reduceLE, Int.reduceAdd, Int.reduceToNat, F]; done); intro _)
        | (refine VWP_cond2 false ?_ (fun hh => nomatch hh) ?_; focus (simp only [go_sem, Nat.reduceLT, Nat.reduceLeDiff, Nat.reduceEqDiff, Nat.reduceAdd, Nat.reduceMul, Nat.reduceSub, reduceCtorEq, Int.reduceBEq, Int.reduceBNe, Int.reduceLT, Int.reduceLE, Int.reduceAdd, Int.reduceToNat, F]; done); intro _)
        | refine wCdx (fun hb => ?_) fun hb => ?_
        | refine wCax (c := by first | exact hnx) (k := ?_)
        | simp only [go_sem, Nat.reduceLT, Nat.reduceLeDiff, Nat.reduceEqDiff, Nat.reduceAdd, Nat.reduceMul, Nat.reduceSub, reduceCtorEq, Int.reduceBEq, Int.reduceBNe, Int.reduceLT, Int.reduceLE, Int.reduceAdd, Int.reduceToNat, F]
        | simp (disch := omega) only [decide_eq_true_eq, if_pos, if_neg, wrap_id, le_maxLen, and_true, true_and, if_true, ite_true]
        | refine wGdx (fun hb => ?_) fun hb => ?_
      refine retO_mk [] rfl [.root 36 (rowsH s.heads), .root 40 (rowsD 70 s.descs)] rfl (by simp [keepsL, updH, HpE, rowsH_set, rowsD_turn, hbk]) rfl (by simp only [go_sem, Nat.reduceLT, Nat.reduceLeDiff, Nat.reduceEqDiff, Nat.reduceAdd, Nat.reduceMul, Nat.reduceSub, reduceCtorEq, vres]; rfl) (acc := []) rfl (by simp) rfl
  · have p4q : (f.phase == 4) = false := by simpa using p4
    have hm : driveM s f k d e o h = (s, f, -1) := by rw [driveM, if_neg p0, if_neg p1, if_neg (by omega), if_neg p4]
    rw [hm] at hr
    subst hr
    have F := And.intro @rowsD_len (And.intro @rowsE_len (And.intro @rowsH_len (And.intro hk (And.intro hj (And.intro hk0 (And.intro hj0 (And.intro ho0 (And.intro hkl (And.intro hjl (And.intro hol (And.intro hrd (And.intro hre (And.intro hrh (And.intro hkr (And.intro hor (And.intro (fun a => List.getElem?_set_self (a := a) hkr) (And.intro @List.length_set.{0} (And.intro @Nat.le_refl (And.intro p0q (And.intro p1q (And.intro p2q (And.intro p3q p4q))))))))))))))))))))))
    repeat' first
      | refine wSq fun _ hK => ?_
      | (refine VWP_split_at (id := 1) [(1, k, 2)] (by simp only [go_sem, Nat.reduceLT, Nat.reduceLeDiff, Nat.reduceEqDiff, Nat.reduceAdd, Nat.reduceMul, Nat.reduceSub, reduceCtorEq, Int.reduceBEq, Int.reduceBNe, Int.reduceLT, Int.reduceLE, Int.reduceAdd, Int.reduceToNat, F, splits, splitH, merges, mergeH, List.set_set, List.set_cons_succ, List.set_cons_zero, List.getElem?_set_self, List.getElem?_cons_succ, List.getElem?_cons_zero, Nat.le_refl]; rfl) ?_)
      | refine wRg ?_
      | refine wDr ?_
      | refine VWP_block ?_
      | refine VWP_skip ?_
      | refine VWP_exit ?_
      | refine VWP_ret ?_
      | (refine hK _ ?_; clear hK)
      | (clear hK; refine hK _ ?_; clear hK)
      | (clear hK; clear hK; refine hK _ ?_; clear hK)
      | (clear hK; clear hK; clear hK; refine hK _ ?_; clear hK)
      | (simp only [wHb, reduceCtorEq] at hb <;> try (exfalso; omega))
      | (refine VWP_cond2 true ?_ ?_ (fun hh => nomatch hh); focus (simp only [go_sem, Nat.reduceLT, Nat.reduceLeDiff, Nat.reduceEqDiff, Nat.reduceAdd, Nat.reduceMul, Nat.reduceSub, reduceCtorEq, Int.reduceBEq, Int.reduceBNe, Int.reduceLT, Int.reduceLE, Int.reduceAdd, Int.reduceToNat, F]; done); intro _)
      | (refine VWP_cond2 false ?_ (fun hh => nomatch hh) ?_; focus (simp only [go_sem, Nat.reduceLT, Nat.reduceLeDiff, Nat.reduceEqDiff, Nat.reduceAdd, Nat.reduceMul, Nat.reduceSub, reduceCtorEq, Int.reduceBEq, Int.reduceBNe, Int.reduceLT, Int.reduceLE, Int.reduceAdd, Int.reduceToNat, F]; done); intro _)
      | refine wCdx (fun hb => ?_) fun hb => ?_
      | simp only [go_sem, Nat.reduceLT, Nat.reduceLeDiff, Nat.reduceEqDiff, Nat.reduceAdd, Nat.reduceMul, Nat.reduceSub, reduceCtorEq, Int.reduceBEq, Int.reduceBNe, Int.reduceLT, Int.reduceLE, Int.reduceAdd, Int.reduceToNat, F]
      | simp (disch := omega) only [decide_eq_true_eq, if_pos, if_neg, wrap_id, le_maxLen, and_true, true_and, if_true, ite_true]
      | refine wGdx (fun hb => ?_) fun hb => ?_
    refine retO_mk [(1, k, 2)] (by simp only [merges, mergeH, go_sem, Nat.reduceLT, Nat.reduceLeDiff, Nat.reduceEqDiff, Nat.reduceAdd, Nat.reduceMul, Nat.reduceSub, reduceCtorEq, hkr, List.getElem?_set_self hkr, List.set_set, List.length_set, List.set_cons_succ, List.set_cons_zero, rowsE_len, rowsE_take, Nat.le_refl, hbk, rowsD_turn]; rfl) [.root 36 (rowsH s.heads), .root 40 (rowsD 70 s.descs)] rfl (by simp [keepsL, updH, HpE, rowsH_set, rowsD_turn, hbk]) rfl (by simp only [go_sem, Nat.reduceLT, Nat.reduceLeDiff, Nat.reduceEqDiff, Nat.reduceAdd, Nat.reduceMul, Nat.reduceSub, reduceCtorEq, vres]; rfl) (acc := []) rfl (by simp) rfl
end Go.Proofs.Ytchkbgekmoileaa
