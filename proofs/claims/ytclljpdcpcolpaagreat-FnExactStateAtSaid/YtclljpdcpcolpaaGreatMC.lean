/- What both StateAt give, and the law on values. -/
import Derived.Test.YtclljpdcpcolpaaGreatKJ
import Derived.Test.YtclljpdcpcolpaaGreatZC
import Derived.Test.YtclljpdcpcolpaaGreatVA
import Derived.Test.YtclljpdcpcolpaaGreatEZ
namespace Go.Proofs.YtclljpdcpcolpaaGreat
open Go Go.RowKit
set_option linter.unusedVariables false
set_option linter.unusedSimpArgs false
set_option maxRecDepth 100000
set_option maxHeartbeats 4000000
attribute [local irreducible] VWP vops vdraw contV contD CallK Guard GuardV NextL Puts Runs RetOK RetQ RetO RetQO thenQ blockQ

/-- What an event makes of the values. -/
def evP (ds : List DescS) (e : EventD) (out : List Int) : List Int := if e.kind = 3 then (match ds[e.object.toNat]? with
  | some d => putE d.entries out
  | none => out) else out
def stateL (w : WorldD) (i : Nat) : List Int := (w.log.take i).foldl (fun out e => evP w.store.descs e out) w.first
theorem stateL_succ {w : WorldD} {i : Nat} {e : EventD} (he : w.log[i]? = some e) : stateL w (i + 1) = evP w.store.descs e (stateL w i) := by
  unfold stateL
  rw [List.take_add_one, he, List.foldl_append]
  rfl
theorem evP_len (ds : List DescS) (e : EventD) (out : List Int) : (evP ds e out).length = out.length := by
  unfold evP
  split
  · split
    · rw [putE_len]
    · rfl
  · rfl
theorem stateL_len (w : WorldD) (hw : ∀ e ∈ w.log, True) : ∀ i : Nat, i ≤ w.log.length → (stateL w i).length = w.first.length
  | 0, _ => rfl
  | i + 1, h => by
    obtain ⟨e, he⟩ : ∃ e, w.log[i]? = some e := ⟨_, List.getElem?_eq_getElem (by omega)⟩
    rw [stateL_succ he, evP_len, stateL_len w hw i (by omega)]
noncomputable def placeOk (w : WorldD) (p : Int) : Bool := bP (WorldP w) && inB p 0 w.log.length
noncomputable def stateR (w : WorldD) (p : Int) : List Int × Bool := if placeOk w p = true then (stateL w p.toNat, true) else ([], false)
/-- A commit's descriptor is there, and has only objects that there are. -/
theorem com_at {w : WorldD} (hP : WorldP w) {i : Nat} {e : EventD} (he : w.log[i]? = some e) (h3 : e.kind = 3) : ∃ (k : Nat) (d : DescS), e.object = k ∧ w.store.descs[k]? = some d ∧ FitsP w.first.length d := by
  obtain ⟨_, hS, hl, _, _, _, hL⟩ := hP
  have hev := hL.1 i e he
  unfold evB at hev
  rw [if_neg (by omega), if_pos h3] at hev
  simp only [Bool.and_eq_true] at hev
  have ho := hev.2
  simp [inB] at ho
  obtain ⟨k, hk⟩ : ∃ k : Nat, e.object = k := ⟨e.object.toNat, by omega⟩
  obtain ⟨d, hd⟩ : ∃ d, w.store.descs[k]? = some d := ⟨_, List.getElem?_eq_getElem (by omega)⟩
  refine ⟨k, d, hk, hd, ?_⟩
  rw [← hl]
  exact hS.2.2.2.1 d (List.mem_of_getElem? hd)
theorem evP_yes {ds : List DescS} {e : EventD} {out : List Int} {k : Nat} {d : DescS} (h3 : e.kind = 3) (hk : e.object = k) (hd : ds[k]? = some d) : evP ds e out = putE d.entries out := by
  rw [evP, if_pos h3, hk, Int.toNat_natCast, hd]
theorem evP_no {ds : List DescS} {e : EventD} {out : List Int} (h3 : ¬ e.kind = 3) : evP ds e out = out := by rw [evP, if_neg h3]
def mixN (es : List EntS) (out : List Int) (j : Nat) : List Int := (putE es out).take j ++ out.drop j
theorem mixN_len (es : List EntS) (out : List Int) (j : Nat) (h : j ≤ out.length) : (mixN es out j).length = out.length := by
  simp [mixN, putE_len]
  omega
theorem mixN_zero (es : List EntS) (out : List Int) : mixN es out 0 = out := by simp [mixN]
theorem mixN_all (es : List EntS) (out : List Int) : mixN es out out.length = putE es out := by
  unfold mixN
  rw [List.drop_length, List.append_nil, List.take_of_length_le (by rw [putE_len]; exact Nat.le_refl _)]
theorem mixN_at {es : List EntS} {out : List Int} {j : Nat} {x : Int} (h : out[j]? = some x) : (mixN es out j)[j]? = some x := by
  have hlt := (List.getElem?_eq_some_iff.1 h).1
  unfold mixN
  rw [List.getElem?_append_right (by simp [putE_len]; omega)]
  simp only [List.length_take, putE_len, List.getElem?_drop]
  rw [Nat.min_eq_left (by omega), Nat.sub_self, Nat.add_zero, h]
theorem mixN_set {es : List EntS} {out : List Int} {j : Nat} {x : Int} (h : out[j]? = some x) : (mixN es out j).set j (newVE es j x) = mixN es out (j + 1) := by
  have hlt := (List.getElem?_eq_some_iff.1 h).1
  have hp : (putE es out)[j]? = some (newVE es j x) := by simp [putE, h]
  refine List.ext_getElem? fun m => ?_
  have hl1 := mixN_len es out j (by omega)
  rcases Nat.lt_trichotomy m j with hm | hm | hm
  · rw [List.getElem?_set_ne (by omega)]
    unfold mixN
    rw [List.getElem?_append_left (by simp [putE_len]; omega), List.getElem?_append_left (by simp [putE_len]; omega), List.getElem?_take, List.getElem?_take, if_pos hm, if_pos (by omega)]
  · subst hm
    rw [List.getElem?_set_self (by omega)]
    unfold mixN
    rw [List.getElem?_append_left (by simp [putE_len]; omega), List.getElem?_take, if_pos (by omega), hp]
  · rw [List.getElem?_set_ne (by omega)]
    unfold mixN
    rw [List.getElem?_append_right (by simp [putE_len]; omega), List.getElem?_append_right (by simp [putE_len]; omega)]
    simp only [List.length_take, putE_len, List.getElem?_drop]
    rw [Nat.min_eq_left (by omega), Nat.min_eq_left (by omega)]
    congr 1
    omega
theorem rowsVt_len (log : List EventD) {p : Nat} (h : p ≤ log.length) : ((rowsV log).take p).length = p := by simp [rowsV]; omega
theorem rowsVt_at {log : List EventD} {p i : Nat} {e : EventD} (h : i < p) (he : log[i]? = some e) : ((rowsV log).take p)[i]? = some [.int .i64 e.kind, .int .i64 e.thread, .int .i64 e.object, .int .i64 e.value] := by
  rw [List.getElem?_take, if_pos h, rowsV_at he]
theorem doE_succ {es : List EntS} {i : Nat} {e : EntS} (h : es[i]? = some e) (out : List Int) : doE (es.take (i + 1)) out = if e.write then (doE (es.take i) out).set e.object.toNat e.new else doE (es.take i) out := by
  unfold doE
  rw [List.take_add_one, h, List.foldl_append]
  rfl
theorem l12Do_ok (out : List Int) (d : DescS) (hx : out.length ≤ 1048576) (hl : d.entries.length ≤ 1048576) (hf : FitsP out.length d) :
    SatO Tryz.prog 68 [.rf 0 out.length, .agg (d.cells 72)] [.root 3 (rowsN out)] (.tup []) [.root 3 (rowsN (doE d.entries out))] := by
  refine satO_of_body hT Tryz.func68 (by kernel_rfl) rfl (rs := []) rfl (n := 32) rfl (by simp) rfl (m := 1) rfl ⟨⟨rfl, rowsN_pur _⟩, by simp [keptL]⟩ fun E hE => ?_
  unfold St.initO
  unfold DescS.cells
  have F := (Eq.refl 0)
  repeat' first
    | refine wSq fun _ hK => ?_
    | refine wRg ?_
    | refine wDr ?_
    | refine VWP_block ?_
    | refine VWP_skip ?_
    | refine VWP_exit ?_
    | refine VWP_ret ?_
    | (refine hK _ ?_; clear hK)
    | (clear hK; refine hK _ ?_; clear hK)
    | (clear hK; clear hK; refine hK _ ?_; clear hK)
    | (clear hK; clear hK; clear hK; refine hK _ ?_; clear hK)
    | (simp only [wHb, reduceCtorEq] at hb <;> try (exfalso; omega))
    | refine wCd (fun hb => ?_) fun hb => ?_
    | simp only [go_sem, Nat.reduceLT, Nat.reduceLeDiff, Nat.reduceEqDiff, Nat.reduceAdd, Nat.reduceMul, Nat.reduceSub, reduceCtorEq, F]
    | simp (disch := omega) only [decide_eq_true_eq, if_pos, if_neg, wrap_id, le_maxLen, and_true, true_and, if_true, ite_true]
    | refine wGd (fun hb => ?_) fun hb => ?_
  refine VWP_loopL (X := Nat) (fun i => [(0, .rf 0 out.length), (3, .bp 1 0), (4, .int .i64 i)]) (fun i => [(0, .root 3 (rowsN (doE (d.entries.take i) out))), (1, .box [.int .i64 d.owner, .int .i64 d.status, .fr 72 (rowsE d.entries)])]) (fun i => d.entries.length - i)
    (fun i => i ≤ d.entries.length) 2 0 (by simp) (by simp [updV]) (by simp [updH, doE, HpE]) (by simp) ?_
  rintro i nx hi hB
  rcases Nat.lt_or_ge i d.entries.length with hlt | hge
  · obtain ⟨e, he⟩ : ∃ e, d.entries[i]? = some e := ⟨_, List.getElem?_eq_getElem hlt⟩
    have hre := rowsE_at he
    obtain ⟨k, hk, hkn⟩ := fits_obj hf he
    have hlen := doE_len (d.entries.take i) out
    obtain ⟨v, hv⟩ : ∃ v, (doE (d.entries.take i) out)[k]? = some v := ⟨_, List.getElem?_eq_getElem (by omega)⟩
    have hrv := rowsN_at hv
    have hsu := doE_succ he out
    rw [hk, Int.toNat_natCast] at hsu
    rw [hk] at hre
    have hk0 : (0 : Int) ≤ (k : Nat) := by omega
    have hw := wrap_id (x := (i : Int) + 1) (by omega)
    have hle : out.length ≤ (rowsN (doE (d.entries.take i) out)).length := by rw [rowsN_len]; omega
    cases hwr : e.write with
    | true =>
      rw [hwr] at hsu hre
      have F := And.intro @rowsE_len (And.intro @rowsN_len (And.intro hlen (And.intro hle (And.intro hre (And.intro hrv (And.intro hk0 (And.intro hkn @rowsN_set)))))))
      repeat' first
        | refine wSq fun _ hK => ?_
        | refine wRg ?_
        | refine wDr ?_
        | refine VWP_block ?_
        | refine VWP_skip ?_
        | refine VWP_exit ?_
        | refine VWP_ret ?_
        | (refine hK _ ?_; clear hK)
        | (clear hK; refine hK _ ?_; clear hK)
        | (clear hK; clear hK; refine hK _ ?_; clear hK)
        | (clear hK; clear hK; clear hK; refine hK _ ?_; clear hK)
        | (simp only [wHb, reduceCtorEq] at hb <;> try (exfalso; omega))
        | refine wCd (fun hb => ?_) fun hb => ?_
        | simp only [go_sem, Nat.reduceLT, Nat.reduceLeDiff, Nat.reduceEqDiff, Nat.reduceAdd, Nat.reduceMul, Nat.reduceSub, reduceCtorEq, F]
        | simp (disch := omega) only [decide_eq_true_eq, if_pos, if_neg, wrap_id, le_maxLen, and_true, true_and, if_true, ite_true]
        | refine wGd (fun hb => ?_) fun hb => ?_
      refine nextL (i + 1) (by omega) (by omega) (by simp [updV, tmL, hw]) ?_ (by omega)
      simp [updH, hpL, hsu, rowsN_set]
    | false =>
      rw [hwr] at hsu hre
      have F := And.intro @rowsE_len (And.intro @rowsN_len (And.intro hlen (And.intro hle (And.intro hre (And.intro hrv (And.intro hk0 (And.intro hkn @rowsN_set)))))))
      repeat' first
        | refine wSq fun _ hK => ?_
        | refine wRg ?_
        | refine wDr ?_
        | refine VWP_block ?_
        | refine VWP_skip ?_
        | refine VWP_exit ?_
        | refine VWP_ret ?_
        | (refine hK _ ?_; clear hK)
        | (clear hK; refine hK _ ?_; clear hK)
        | (clear hK; clear hK; refine hK _ ?_; clear hK)
        | (clear hK; clear hK; clear hK; refine hK _ ?_; clear hK)
        | (simp only [wHb, reduceCtorEq] at hb <;> try (exfalso; omega))
        | refine wCd (fun hb => ?_) fun hb => ?_
        | simp only [go_sem, Nat.reduceLT, Nat.reduceLeDiff, Nat.reduceEqDiff, Nat.reduceAdd, Nat.reduceMul, Nat.reduceSub, reduceCtorEq, F]
        | simp (disch := omega) only [decide_eq_true_eq, if_pos, if_neg, wrap_id, le_maxLen, and_true, true_and, if_true, ite_true]
        | refine wGd (fun hb => ?_) fun hb => ?_
      refine nextL (i + 1) (by omega) (by omega) (by simp [updV, tmL, hw]) ?_ (by omega)
      simp [updH, hpL, hsu]
  · obtain rfl : i = d.entries.length := by omega
    have F := @rowsE_len
    repeat' first
      | refine wSq fun _ hK => ?_
      | refine wRg ?_
      | refine wDr ?_
      | refine VWP_block ?_
      | refine VWP_skip ?_
      | refine VWP_exit ?_
      | refine VWP_ret ?_
      | (refine hK _ ?_; clear hK)
      | (clear hK; refine hK _ ?_; clear hK)
      | (clear hK; clear hK; refine hK _ ?_; clear hK)
      | (clear hK; clear hK; clear hK; refine hK _ ?_; clear hK)
      | (simp only [wHb, reduceCtorEq] at hb <;> try (exfalso; omega))
      | refine wCd (fun hb => ?_) fun hb => ?_
      | simp only [go_sem, Nat.reduceLT, Nat.reduceLeDiff, Nat.reduceEqDiff, Nat.reduceAdd, Nat.reduceMul, Nat.reduceSub, reduceCtorEq, F]
      | simp (disch := omega) only [decide_eq_true_eq, if_pos, if_neg, wrap_id, le_maxLen, and_true, true_and, if_true, ite_true]
      | refine wGd (fun hb => ?_) fun hb => ?_
    refine retO_mk [] rfl [.root 3 (rowsN (doE d.entries out))] rfl (by simp [keepsL, updH, hpL, HpE]) rfl (by simp only [go_sem, Nat.reduceLT, Nat.reduceLeDiff, Nat.reduceEqDiff, Nat.reduceAdd, Nat.reduceMul, Nat.reduceSub, reduceCtorEq, vres]; rfl) (acc := []) rfl (by simp) rfl
theorem stateAt_ok (w : WorldD) (p : Nat) (hp : p ≤ w.log.length) (hP : WorldP w) (hs : w.tiny) : SatP Tryz.prog 40 [.agg (w.cells 3 67 70 72 91 120 137 55), .int .i64 p] (.rf 0 w.first.length) [(3, rowsN (stateL w p))] := by
  have f2 := hs.2.1.small.2.2
  have f1 := hs.1
  have f5 := hs.2.2.2.2
  have hp0 : (0 : Int) ≤ (p : Nat) := by omega
  have hlv := rowsVt_len w.log hp
  refine satP_of_body hT Tryz.func40 (by kernel_rfl) rfl (rs := [.tmp 4]) rfl (n := 48) rfl (by simp) rfl (by simpa using rowsN_pur (stateL w p)) fun E hE => ?_
  unfold St.init
  unfold WorldD.cells
  have F := And.intro @rowsN_len (And.intro @rowsV_len (And.intro hp (And.intro hp0 hlv)))
  repeat' first
    | refine wSq fun _ hK => ?_
    | refine wRg ?_
    | refine wDr ?_
    | refine VWP_block ?_
    | refine VWP_skip ?_
    | refine VWP_exit ?_
    | refine VWP_ret ?_
    | (refine hK _ ?_; clear hK)
    | (clear hK; refine hK _ ?_; clear hK)
    | (clear hK; clear hK; refine hK _ ?_; clear hK)
    | (clear hK; clear hK; clear hK; refine hK _ ?_; clear hK)
    | (simp only [wHb, reduceCtorEq] at hb <;> try (exfalso; omega))
    | refine wCd (fun hb => ?_) fun hb => ?_
    | refine wCa (c := by first | exact own_ok w.first (by omega)) (k := ?_)
    | simp only [go_sem, Nat.reduceLT, Nat.reduceLeDiff, Nat.reduceEqDiff, Nat.reduceAdd, Nat.reduceMul, Nat.reduceSub, reduceCtorEq, F]
    | simp (disch := omega) only [decide_eq_true_eq, if_pos, if_neg, wrap_id, le_maxLen, and_true, true_and, if_true, ite_true]
    | refine wGd (fun hb => ?_) fun hb => ?_
  refine VWP_loopL (X := Nat) (fun i => [(2, .bp 0 0), (5, .rf 1 w.first.length), (15, .fr 55 ((rowsV w.log).take p)), (16, .int .i64 p), (17, .int .i64 i)]) (fun i => [(0, .box [.fr 3 (rowsN w.first), .fr 67 (rowsH w.store.heads), .fr 70 (rowsD 72 w.store.descs), .fr 91 (rowsTh 120 72 137 w.threads), .fr 55 (rowsV w.log)]), (1, .root 3 (rowsN (stateL w i)))]) (fun i => p - i)
    (fun i => i ≤ p) 2 0 (by simp) (by simp [updV]) (by simp [updH, stateL]) (by simp) ?_
  rintro i nx hi hB
  have n0 : nx ≠ 0 := by omega
  have n1 : nx ≠ 1 := by omega
  have m0 : (0 : Nat) ≠ nx := by omega
  have m1 : (1 : Nat) ≠ nx := by omega
  have hsl := stateL_len w (fun _ _ => trivial) i (by omega)
  have hle : w.first.length ≤ (rowsN (stateL w i)).length := by rw [rowsN_len]; omega
  rcases Nat.lt_or_ge i p with hlt | hge
  · obtain ⟨e, he⟩ : ∃ e, w.log[i]? = some e := ⟨_, List.getElem?_eq_getElem (by omega)⟩
    have hre := rowsVt_at hlt he
    have hw := wrap_id (x := (i : Int) + 1) (by omega)
    have hsu := stateL_succ he
    by_cases h3 : e.kind = 3
    · obtain ⟨k, d, hk, hd, hfd⟩ := com_at hP he h3
      rw [evP_yes h3 hk hd] at hsu
      have hkl := (List.getElem?_eq_some_iff.1 hd).1
      have hk0 : (0 : Int) ≤ (k : Nat) := by omega
      have hrd := rowsD_at (te := 72) hd
      have hde := f2 d (List.mem_of_getElem? hd)
      rw [h3, hk] at hre
      have F := And.intro hlv (And.intro hre (And.intro n0 (And.intro n1 (And.intro m0 (And.intro m1 hle)))))
      repeat' first
        | refine wSq fun _ hK => ?_
        | refine wRg ?_
        | refine wDr ?_
        | refine VWP_block ?_
        | refine VWP_skip ?_
        | refine VWP_exit ?_
        | refine VWP_ret ?_
        | (refine hK _ ?_; clear hK)
        | (clear hK; refine hK _ ?_; clear hK)
        | (clear hK; clear hK; refine hK _ ?_; clear hK)
        | (clear hK; clear hK; clear hK; refine hK _ ?_; clear hK)
        | (simp only [wHb, reduceCtorEq] at hb <;> try (exfalso; omega))
        | refine wCdx (fun hb => ?_) fun hb => ?_
        | simp only [go_sem, Nat.reduceLT, Nat.reduceLeDiff, Nat.reduceEqDiff, Nat.reduceAdd, Nat.reduceMul, Nat.reduceSub, reduceCtorEq, Int.reduceBEq, Int.reduceBNe, Int.reduceLT, Int.reduceLE, Int.reduceAdd, Int.reduceToNat, F]
        | simp (disch := omega) only [decide_eq_true_eq, if_pos, if_neg, wrap_id, le_maxLen, and_true, true_and, if_true, ite_true]
        | refine wGdx (fun hb => ?_) fun hb => ?_
      refine VWP_loopL (X := Nat) (fun j => [(2, .bp 0 0), (5, .rf 1 w.first.length), (7, .bp nx 0), (15, .fr 55 ((rowsV w.log).take p)), (16, .int .i64 p), (17, .int .i64 i), (25, .int .i64 w.first.length), (26, .int .i64 j)]) (fun j => [(0, .box [.fr 3 (rowsN w.first), .fr 67 (rowsH w.store.heads), .fr 70 (rowsD 72 w.store.descs), .fr 91 (rowsTh 120 72 137 w.threads), .fr 55 (rowsV w.log)]), (1, .root 3 (rowsN (mixN d.entries (stateL w i) j))), (nx, .box [.int .i64 3, .int .i64 e.thread, .int .i64 k, .int .i64 e.value])]) (fun j => w.first.length - j)
        (fun j => j ≤ w.first.length) (nx + 1) 0 (by simp) (by simp [updV, tmL]) (by simp [updH, hpL, n0, n1, m0, m1, mixN_zero]) (by omega) ?_
      rintro j nx3 hj hB3
      have hml := mixN_len d.entries (stateL w i) j (by omega)
      have hle3 : w.first.length ≤ (rowsN (mixN d.entries (stateL w i) j)).length := by rw [rowsN_len]; omega
      rcases Nat.lt_or_ge j w.first.length with hjl | hjg
      · obtain ⟨x, hx⟩ : ∃ x, (stateL w i)[j]? = some x := ⟨_, List.getElem?_eq_getElem (by omega)⟩
        have hrx := rowsN_at (mixN_at (es := d.entries) hx)
        have hms := mixN_set (es := d.entries) hx
        have hw3 := wrap_id (x := (j : Int) + 1) (by omega)
        have hnv := newValue_ok d j x hde
        unfold DescS.cells at hnv
        have F := And.intro @rowsD_len (And.intro @rowsN_len (And.intro hml (And.intro hle3 (And.intro hrx (And.intro hrd (And.intro hkl (And.intro hk0 (And.intro hjl (And.intro n0 (And.intro n1 (And.intro m0 (And.intro m1 (And.intro @rowsN_set hms)))))))))))))
        repeat' first
          | refine wSq fun _ hK => ?_
          | refine wRg ?_
          | refine wDr ?_
          | refine VWP_block ?_
          | refine VWP_skip ?_
          | refine VWP_exit ?_
          | refine VWP_ret ?_
          | (refine hK _ ?_; clear hK)
          | (clear hK; refine hK _ ?_; clear hK)
          | (clear hK; clear hK; refine hK _ ?_; clear hK)
          | (clear hK; clear hK; clear hK; refine hK _ ?_; clear hK)
          | (simp only [wHb, reduceCtorEq] at hb <;> try (exfalso; omega))
          | refine wCd (fun hb => ?_) fun hb => ?_
          | refine wCa (c := by first | exact hnv) (k := ?_)
          | simp only [go_sem, Nat.reduceLT, Nat.reduceLeDiff, Nat.reduceEqDiff, Nat.reduceAdd, Nat.reduceMul, Nat.reduceSub, reduceCtorEq, F]
          | simp (disch := omega) only [decide_eq_true_eq, if_pos, if_neg, wrap_id, le_maxLen, and_true, true_and, if_true, ite_true]
          | refine wGd (fun hb => ?_) fun hb => ?_
        refine nextL (j + 1) (by omega) (by omega) (by simp [updV, tmL, hw3]) ?_ (by omega)
        simp [updH, hpL, n0, n1, m0, m1, rowsN_set, hms]
      · obtain rfl : j = w.first.length := by omega
        have hma : mixN d.entries (stateL w i) w.first.length = putE d.entries (stateL w i) := by rw [← hsl, mixN_all]
        have F := And.intro @rowsN_len (And.intro n0 (And.intro n1 (And.intro m0 m1)))
        repeat' first
          | refine wSq fun _ hK => ?_
          | refine wRg ?_
          | refine wDr ?_
          | refine VWP_block ?_
          | refine VWP_skip ?_
          | refine VWP_exit ?_
          | refine VWP_ret ?_
          | (refine hK _ ?_; clear hK)
          | (clear hK; refine hK _ ?_; clear hK)
          | (clear hK; clear hK; refine hK _ ?_; clear hK)
          | (clear hK; clear hK; clear hK; refine hK _ ?_; clear hK)
          | (simp only [wHb, reduceCtorEq] at hb <;> try (exfalso; omega))
          | refine wCd (fun hb => ?_) fun hb => ?_
          | simp only [go_sem, Nat.reduceLT, Nat.reduceLeDiff, Nat.reduceEqDiff, Nat.reduceAdd, Nat.reduceMul, Nat.reduceSub, reduceCtorEq, F]
          | simp (disch := omega) only [decide_eq_true_eq, if_pos, if_neg, wrap_id, le_maxLen, and_true, true_and, if_true, ite_true]
          | refine wGd (fun hb => ?_) fun hb => ?_
        refine nextL (i + 1) (by omega) (by omega) (by simp [updV, tmL, hw]) (by simp [updH, hpL, hma, hsu, n0, n1, m0, m1]) (by omega)
    · have h3q : (e.kind == 3) = false := by simpa using h3
      rw [evP_no h3] at hsu
      have F := And.intro hlv (And.intro hre (And.intro n0 (And.intro n1 (And.intro m0 (And.intro m1 h3q)))))
      repeat' first
        | refine wSq fun _ hK => ?_
        | refine wRg ?_
        | refine wDr ?_
        | refine VWP_block ?_
        | refine VWP_skip ?_
        | refine VWP_exit ?_
        | refine VWP_ret ?_
        | (refine hK _ ?_; clear hK)
        | (clear hK; refine hK _ ?_; clear hK)
        | (clear hK; clear hK; refine hK _ ?_; clear hK)
        | (clear hK; clear hK; clear hK; refine hK _ ?_; clear hK)
        | (simp only [wHb, reduceCtorEq] at hb <;> try (exfalso; omega))
        | refine wCd (fun hb => ?_) fun hb => ?_
        | simp only [go_sem, Nat.reduceLT, Nat.reduceLeDiff, Nat.reduceEqDiff, Nat.reduceAdd, Nat.reduceMul, Nat.reduceSub, reduceCtorEq, F]
        | simp (disch := omega) only [decide_eq_true_eq, if_pos, if_neg, wrap_id, le_maxLen, and_true, true_and, if_true, ite_true]
        | refine wGd (fun hb => ?_) fun hb => ?_
      refine nextL (i + 1) (by omega) (by omega) (by simp [updV, tmL, hw]) (by simp [updH, hpL, hsu, n0, n1, m0, m1]) (by omega)
  · obtain rfl : i = p := by omega
    have F := (Eq.refl 0)
    repeat' first
      | refine wSq fun _ hK => ?_
      | refine wRg ?_
      | refine wDr ?_
      | refine VWP_block ?_
      | refine VWP_skip ?_
      | refine VWP_exit ?_
      | refine VWP_ret ?_
      | (refine hK _ ?_; clear hK)
      | (clear hK; refine hK _ ?_; clear hK)
      | (clear hK; clear hK; refine hK _ ?_; clear hK)
      | (clear hK; clear hK; clear hK; refine hK _ ?_; clear hK)
      | (simp only [wHb, reduceCtorEq] at hb <;> try (exfalso; omega))
      | refine wCd (fun hb => ?_) fun hb => ?_
      | simp only [go_sem, Nat.reduceLT, Nat.reduceLeDiff, Nat.reduceEqDiff, Nat.reduceAdd, Nat.reduceMul, Nat.reduceSub, reduceCtorEq, F]
      | simp (disch := omega) only [decide_eq_true_eq, if_pos, if_neg, wrap_id, le_maxLen, and_true, true_and, if_true, ite_true]
      | refine wGd (fun hb => ?_) fun hb => ?_
    exact ret_rf (T := 1) (by simp only [go_sem, Nat.reduceLT, Nat.reduceLeDiff, Nat.reduceEqDiff, Nat.reduceAdd, Nat.reduceMul, Nat.reduceSub, reduceCtorEq]) (by simp only [go_sem, Nat.reduceLT, Nat.reduceLeDiff, Nat.reduceEqDiff, Nat.reduceAdd, Nat.reduceMul, Nat.reduceSub, reduceCtorEq]) (by rw [rowsN_len, hsl]) (rowsN_pur _)
theorem l12State_ok (w : WorldD) (p : Nat) (hp : p ≤ w.log.length) (hP : WorldP w) (hs : w.tiny) : SatP Tryz.prog 38 [.agg (w.cells 3 67 70 72 91 120 137 55), .int .i64 p] (.rf 0 w.first.length) [(3, rowsN (stateL w p))] := by
  have f2 := hs.2.1.small.2.2
  have f1 := hs.1
  have f5 := hs.2.2.2.2
  refine satP_of_body hT Tryz.func38 (by kernel_rfl) rfl (rs := [.tmp 4]) rfl (n := 36) rfl (by simp) rfl (by simpa using rowsN_pur (stateL w p)) fun E hE => ?_
  unfold St.init
  unfold WorldD.cells
  have F := @rowsN_len
  repeat' first
    | refine wSq fun _ hK => ?_
    | refine wRg ?_
    | refine wDr ?_
    | refine VWP_block ?_
    | refine VWP_skip ?_
    | refine VWP_exit ?_
    | refine VWP_ret ?_
    | (refine hK _ ?_; clear hK)
    | (clear hK; refine hK _ ?_; clear hK)
    | (clear hK; clear hK; refine hK _ ?_; clear hK)
    | (clear hK; clear hK; clear hK; refine hK _ ?_; clear hK)
    | (simp only [wHb, reduceCtorEq] at hb <;> try (exfalso; omega))
    | refine wCd (fun hb => ?_) fun hb => ?_
    | refine wCa (c := by first | exact l1Copy_ok w.first (by omega)) (k := ?_)
    | simp only [go_sem, Nat.reduceLT, Nat.reduceLeDiff, Nat.reduceEqDiff, Nat.reduceAdd, Nat.reduceMul, Nat.reduceSub, reduceCtorEq, F]
    | simp (disch := omega) only [decide_eq_true_eq, if_pos, if_neg, wrap_id, le_maxLen, and_true, true_and, if_true, ite_true]
    | refine wGd (fun hb => ?_) fun hb => ?_
  refine VWP_loopL (X := Nat) (fun i => [(1, .int .i64 p), (2, .bp 0 0), (5, .rf 1 w.first.length), (6, .int .i64 i)]) (fun i => [(0, .box [.fr 3 (rowsN w.first), .fr 67 (rowsH w.store.heads), .fr 70 (rowsD 72 w.store.descs), .fr 91 (rowsTh 120 72 137 w.threads), .fr 55 (rowsV w.log)]), (1, .root 3 (rowsN (stateL w i)))]) (fun i => p - i)
    (fun i => i ≤ p) 2 0 (by simp) (by simp [updV]) (by simp [updH, stateL]) (by simp) ?_
  rintro i nx hi hB
  have hsl := stateL_len w (fun _ _ => trivial) i (by omega)
  rcases Nat.lt_or_ge i p with hlt | hge
  · obtain ⟨e, he⟩ : ∃ e, w.log[i]? = some e := ⟨_, List.getElem?_eq_getElem (by omega)⟩
    have hre := rowsV_at he
    have hil : i < w.log.length := by omega
    have hw := wrap_id (x := (i : Int) + 1) (by omega)
    have hsu := stateL_succ he
    by_cases h3 : e.kind = 3
    · obtain ⟨k, d, hk, hd, hfd⟩ := com_at hP he h3
      rw [evP_yes h3 hk hd] at hsu
      have hkl := (List.getElem?_eq_some_iff.1 hd).1
      have hk0 : (0 : Int) ≤ (k : Nat) := by omega
      have hrd := rowsD_at (te := 72) hd
      have hde := f2 d (List.mem_of_getElem? hd)
      rw [h3, hk] at hre
      have hdo := l12Do_ok (stateL w i) d (by omega) hde (by rw [hsl]; exact hfd)
      rw [hsl, doE_put hfd.1] at hdo
      unfold DescS.cells at hdo
      have F := And.intro @lastK_at (And.intro @rowsV_len (And.intro @rowsD_len (And.intro hil (And.intro hre (And.intro hrd (And.intro hkl (And.intro hk0 @rowsN_pur)))))))
      repeat' first
        | refine wSq fun _ hK => ?_
        | refine wRg ?_
        | refine VWP_drawL_k hT hM (id := 6) 12 (by kernel_rfl) rfl ?_
        | refine wDr ?_
        | refine VWP_block ?_
        | refine VWP_skip ?_
        | refine VWP_exit ?_
        | refine VWP_ret ?_
        | (refine hK _ ?_; clear hK)
        | (clear hK; refine hK _ ?_; clear hK)
        | (clear hK; clear hK; refine hK _ ?_; clear hK)
        | (clear hK; clear hK; clear hK; refine hK _ ?_; clear hK)
        | (simp only [wHb, reduceCtorEq] at hb <;> try (exfalso; omega))
        | refine wCdx (fun hb => ?_) fun hb => ?_
        | refine wOwx [1] (c := by exact hdo) (k := ?_)
        | simp only [go_sem, Nat.reduceLT, Nat.reduceLeDiff, Nat.reduceEqDiff, Nat.reduceAdd, Nat.reduceMul, Nat.reduceSub, reduceCtorEq, Int.reduceBEq, Int.reduceBNe, Int.reduceLT, Int.reduceLE, Int.reduceAdd, Int.reduceToNat, F]
        | simp (disch := omega) only [decide_eq_true_eq, if_pos, if_neg, wrap_id, le_maxLen, and_true, true_and, if_true, ite_true]
        | refine wGdx (fun hb => ?_) fun hb => ?_
      refine nextL (i + 1) (by omega) (by omega) (by simp [updV, tmL, hw]) (by simp [updH, hpL, hsu]) (by first | omega | (simp; try omega))
    · have h3q : (e.kind == 3) = false := by simpa using h3
      rw [evP_no h3] at hsu
      have F := And.intro @rowsV_len (And.intro hil (And.intro hre h3q))
      repeat' first
        | refine wSq fun _ hK => ?_
        | refine wRg ?_
        | refine wDr ?_
        | refine VWP_block ?_
        | refine VWP_skip ?_
        | refine VWP_exit ?_
        | refine VWP_ret ?_
        | (refine hK _ ?_; clear hK)
        | (clear hK; refine hK _ ?_; clear hK)
        | (clear hK; clear hK; refine hK _ ?_; clear hK)
        | (clear hK; clear hK; clear hK; refine hK _ ?_; clear hK)
        | (simp only [wHb, reduceCtorEq] at hb <;> try (exfalso; omega))
        | refine wCd (fun hb => ?_) fun hb => ?_
        | simp only [go_sem, Nat.reduceLT, Nat.reduceLeDiff, Nat.reduceEqDiff, Nat.reduceAdd, Nat.reduceMul, Nat.reduceSub, reduceCtorEq, F]
        | simp (disch := omega) only [decide_eq_true_eq, if_pos, if_neg, wrap_id, le_maxLen, and_true, true_and, if_true, ite_true]
        | refine wGd (fun hb => ?_) fun hb => ?_
      refine nextL (i + 1) (by omega) (by omega) (by simp [updV, tmL, hw]) (by simp [updH, hpL, hsu]) (by omega)
  · obtain rfl : i = p := by omega
    have F := (Eq.refl 0)
    repeat' first
      | refine wSq fun _ hK => ?_
      | refine wRg ?_
      | refine wDr ?_
      | refine VWP_block ?_
      | refine VWP_skip ?_
      | refine VWP_exit ?_
      | refine VWP_ret ?_
      | (refine hK _ ?_; clear hK)
      | (clear hK; refine hK _ ?_; clear hK)
      | (clear hK; clear hK; refine hK _ ?_; clear hK)
      | (clear hK; clear hK; clear hK; refine hK _ ?_; clear hK)
      | (simp only [wHb, reduceCtorEq] at hb <;> try (exfalso; omega))
      | refine wCd (fun hb => ?_) fun hb => ?_
      | simp only [go_sem, Nat.reduceLT, Nat.reduceLeDiff, Nat.reduceEqDiff, Nat.reduceAdd, Nat.reduceMul, Nat.reduceSub, reduceCtorEq, F]
      | simp (disch := omega) only [decide_eq_true_eq, if_pos, if_neg, wrap_id, le_maxLen, and_true, true_and, if_true, ite_true]
      | refine wGd (fun hb => ?_) fun hb => ?_
    exact ret_rf (T := 1) (by simp only [go_sem, Nat.reduceLT, Nat.reduceLeDiff, Nat.reduceEqDiff, Nat.reduceAdd, Nat.reduceMul, Nat.reduceSub, reduceCtorEq]) (by simp only [go_sem, Nat.reduceLT, Nat.reduceLeDiff, Nat.reduceEqDiff, Nat.reduceAdd, Nat.reduceMul, Nat.reduceSub, reduceCtorEq]) (by rw [rowsN_len, hsl]) (rowsN_pur _)
theorem implState_ok (w : WorldD) (p : Int) (r : List Int × Bool) (hr : stateR w p = r) (hs : w.tiny) : SatP Tryz.prog 18 [.agg (w.cells 3 67 70 72 91 120 137 55), .int .i64 p] (.tup [.rf 0 r.1.length, .bool r.2]) [(3, rowsN r.1)] := by
  have hc := implWorldOk_ok w hs
  by_cases hp : bP (WorldP w) = true
  · have hP := bP_iff.1 hp
    rw [hp] at hc
    cases hin : inB p 0 w.log.length with
    | true =>
      have hb : 0 ≤ p ∧ p ≤ w.log.length := by simp [inB] at hin; omega
      obtain ⟨q, rfl⟩ : ∃ q : Nat, p = q := ⟨p.toNat, by omega⟩
      have hql : q ≤ w.log.length := by omega
      have hst := stateAt_ok w q hql hP hs
      have hsl := stateL_len w (fun _ _ => trivial) q hql
      rw [stateR, placeOk, hp, hin, Bool.and_self, if_pos rfl, Int.toNat_natCast] at hr
      subst hr
      rw [hsl]
      refine satP_of_body hT Tryz.func18 (by kernel_rfl) rfl (rs := [.tmp 4, .tmp 5]) rfl (n := 20) rfl (by simp) rfl (by simpa using rowsN_pur (stateL w q)) fun E hE => ?_
      unfold St.init
      unfold WorldD.cells at *
      have F := And.intro @rowsV_len hin
      repeat' first
        | refine wSq fun _ hK => ?_
        | refine wRg ?_
        | refine wDr ?_
        | refine VWP_block ?_
        | refine VWP_skip ?_
        | refine VWP_exit ?_
        | refine VWP_ret ?_
        | (refine hK _ ?_; clear hK)
        | (clear hK; refine hK _ ?_; clear hK)
        | (clear hK; clear hK; refine hK _ ?_; clear hK)
        | (clear hK; clear hK; clear hK; refine hK _ ?_; clear hK)
        | (simp only [wHb, reduceCtorEq] at hb <;> try (exfalso; omega))
        | refine wCd (fun hb => ?_) fun hb => ?_
        | refine wCa (c := by first | exact hc | exact hst | exact in_ok _ _ _) (k := ?_)
        | simp only [go_sem, Nat.reduceLT, Nat.reduceLeDiff, Nat.reduceEqDiff, Nat.reduceAdd, Nat.reduceMul, Nat.reduceSub, reduceCtorEq, F]
        | simp (disch := omega) only [decide_eq_true_eq, if_pos, if_neg, wrap_id, le_maxLen, and_true, true_and, if_true, ite_true]
        | refine wGd (fun hb => ?_) fun hb => ?_
      exact ret_rfs (T := 1) (by simp only [go_sem, Nat.reduceLT, Nat.reduceLeDiff, Nat.reduceEqDiff, Nat.reduceAdd, Nat.reduceMul, Nat.reduceSub, reduceCtorEq]; try simp) (by simp only [go_sem, Nat.reduceLT, Nat.reduceLeDiff, Nat.reduceEqDiff, Nat.reduceAdd, Nat.reduceMul, Nat.reduceSub, reduceCtorEq]; try rfl) rfl (by simp only [go_sem, Nat.reduceLT, Nat.reduceLeDiff, Nat.reduceEqDiff, Nat.reduceAdd, Nat.reduceMul, Nat.reduceSub, reduceCtorEq]; try rfl) rfl (by rw [rowsN_len, hsl]) (rowsN_pur _)
    | false =>
      rw [stateR, placeOk, hin, Bool.and_false, if_neg (fun h => nomatch h)] at hr
      subst hr
      refine satP_of_body hT Tryz.func18 (by kernel_rfl) rfl (rs := [.tmp 4, .tmp 5]) rfl (n := 20) rfl (by simp) rfl (by simpa using rowsN_pur []) fun E hE => ?_
      unfold St.init
      unfold WorldD.cells at *
      have F := And.intro @rowsV_len hin
      repeat' first
        | refine wSq fun _ hK => ?_
        | refine wRg ?_
        | refine wDr ?_
        | refine VWP_block ?_
        | refine VWP_skip ?_
        | refine VWP_exit ?_
        | refine VWP_ret ?_
        | (refine hK _ ?_; clear hK)
        | (clear hK; refine hK _ ?_; clear hK)
        | (clear hK; clear hK; refine hK _ ?_; clear hK)
        | (clear hK; clear hK; clear hK; refine hK _ ?_; clear hK)
        | (simp only [wHb, reduceCtorEq] at hb <;> try (exfalso; omega))
        | refine wCd (fun hb => ?_) fun hb => ?_
        | refine wCa (c := by first | exact hc | exact in_ok _ _ _) (k := ?_)
        | simp only [go_sem, Nat.reduceLT, Nat.reduceLeDiff, Nat.reduceEqDiff, Nat.reduceAdd, Nat.reduceMul, Nat.reduceSub, reduceCtorEq, F]
        | simp (disch := omega) only [decide_eq_true_eq, if_pos, if_neg, wrap_id, le_maxLen, and_true, true_and, if_true, ite_true]
        | refine wGd (fun hb => ?_) fun hb => ?_
      refine ret_mk (vs := _) (acc := _) (by simp only [go_sem, Nat.reduceLT, Nat.reduceLeDiff, Nat.reduceEqDiff, Nat.reduceAdd, Nat.reduceMul, Nat.reduceSub, reduceCtorEq, vres]; rfl) (by simp only [go_sem, Nat.reduceLT, Nat.reduceLeDiff, Nat.reduceEqDiff, Nat.reduceAdd, Nat.reduceMul, Nat.reduceSub, reduceCtorEq, wrap, exV, exAs, exA, exCs, exC]; rfl) (by simp) (by simp [rowsN]) (by simp [rowsN_pur])
  · have hpf : bP (WorldP w) = false := by simpa using hp
    rw [hpf] at hc
    rw [stateR, placeOk, hpf, Bool.false_and, if_neg (fun h => nomatch h)] at hr
    subst hr
    refine satP_of_body hT Tryz.func18 (by kernel_rfl) rfl (rs := [.tmp 4, .tmp 5]) rfl (n := 20) rfl (by simp) rfl (by simpa using rowsN_pur []) fun E hE => ?_
    unfold St.init
    unfold WorldD.cells at *
    have F := (Eq.refl 0)
    repeat' first
      | refine wSq fun _ hK => ?_
      | refine wRg ?_
      | refine wDr ?_
      | refine VWP_block ?_
      | refine VWP_skip ?_
      | refine VWP_exit ?_
      | refine VWP_ret ?_
      | (refine hK _ ?_; clear hK)
      | (clear hK; refine hK _ ?_; clear hK)
      | (clear hK; clear hK; refine hK _ ?_; clear hK)
      | (clear hK; clear hK; clear hK; refine hK _ ?_; clear hK)
      | (simp only [wHb, reduceCtorEq] at hb <;> try (exfalso; omega))
      | refine wCd (fun hb => ?_) fun hb => ?_
      | refine wCa (c := by first | exact hc) (k := ?_)
      | simp only [go_sem, Nat.reduceLT, Nat.reduceLeDiff, Nat.reduceEqDiff, Nat.reduceAdd, Nat.reduceMul, Nat.reduceSub, reduceCtorEq, F]
      | simp (disch := omega) only [decide_eq_true_eq, if_pos, if_neg, wrap_id, le_maxLen, and_true, true_and, if_true, ite_true]
      | refine wGd (fun hb => ?_) fun hb => ?_
    refine ret_mk (vs := _) (acc := _) (by simp only [go_sem, Nat.reduceLT, Nat.reduceLeDiff, Nat.reduceEqDiff, Nat.reduceAdd, Nat.reduceMul, Nat.reduceSub, reduceCtorEq, vres]; rfl) (by simp only [go_sem, Nat.reduceLT, Nat.reduceLeDiff, Nat.reduceEqDiff, Nat.reduceAdd, Nat.reduceMul, Nat.reduceSub, reduceCtorEq, wrap, exV, exAs, exA, exCs, exC]; rfl) (by simp) (by simp [rowsN]) (by simp [rowsN_pur])
theorem specState_ok (w : WorldD) (p : Int) (r : List Int × Bool) (hr : stateR w p = r) (hs : w.tiny) : SatP Tryz.prog 17 [.agg (w.cells 3 67 70 72 91 120 137 55), .int .i64 p] (.tup [.rf 0 r.1.length, .bool r.2]) [(3, rowsN r.1)] := by
  have hc := specWorldOk_ok w hs
  by_cases hp : bP (WorldP w) = true
  · have hP := bP_iff.1 hp
    rw [hp] at hc
    cases hin : inB p 0 w.log.length with
    | true =>
      have hb : 0 ≤ p ∧ p ≤ w.log.length := by simp [inB] at hin; omega
      obtain ⟨q, rfl⟩ : ∃ q : Nat, p = q := ⟨p.toNat, by omega⟩
      have hql : q ≤ w.log.length := by omega
      have hst := l12State_ok w q hql hP hs
      have hsl := stateL_len w (fun _ _ => trivial) q hql
      rw [stateR, placeOk, hp, hin, Bool.and_self, if_pos rfl, Int.toNat_natCast] at hr
      subst hr
      rw [hsl]
      refine satP_of_body hT Tryz.func17 (by kernel_rfl) rfl (rs := [.tmp 4, .tmp 5]) rfl (n := 21) rfl (by simp) rfl (by simpa using rowsN_pur (stateL w q)) fun E hE => ?_
      unfold St.init
      unfold WorldD.cells at *
      have F := And.intro @rowsV_len hin
      repeat' first
        | refine wSq fun _ hK => ?_
        | refine wRg ?_
        | refine wDr ?_
        | refine VWP_block ?_
        | refine VWP_skip ?_
        | refine VWP_exit ?_
        | refine VWP_ret ?_
        | (refine hK _ ?_; clear hK)
        | (clear hK; refine hK _ ?_; clear hK)
        | (clear hK; clear hK; refine hK _ ?_; clear hK)
        | (clear hK; clear hK; clear hK; refine hK _ ?_; clear hK)
        | (simp only [wHb, reduceCtorEq] at hb <;> try (exfalso; omega))
        | refine wCd (fun hb => ?_) fun hb => ?_
        | refine wCa (c := by first | exact hc | exact hst | exact l1In_ok _ _ _) (k := ?_)
        | simp only [go_sem, Nat.reduceLT, Nat.reduceLeDiff, Nat.reduceEqDiff, Nat.reduceAdd, Nat.reduceMul, Nat.reduceSub, reduceCtorEq, F]
        | simp (disch := omega) only [decide_eq_true_eq, if_pos, if_neg, wrap_id, le_maxLen, and_true, true_and, if_true, ite_true]
        | refine wGd (fun hb => ?_) fun hb => ?_
      exact ret_rfs (T := 1) (by simp only [go_sem, Nat.reduceLT, Nat.reduceLeDiff, Nat.reduceEqDiff, Nat.reduceAdd, Nat.reduceMul, Nat.reduceSub, reduceCtorEq]; try simp) (by simp only [go_sem, Nat.reduceLT, Nat.reduceLeDiff, Nat.reduceEqDiff, Nat.reduceAdd, Nat.reduceMul, Nat.reduceSub, reduceCtorEq]; try rfl) rfl (by simp only [go_sem, Nat.reduceLT, Nat.reduceLeDiff, Nat.reduceEqDiff, Nat.reduceAdd, Nat.reduceMul, Nat.reduceSub, reduceCtorEq]; try rfl) rfl (by rw [rowsN_len, hsl]) (rowsN_pur _)
    | false =>
      rw [stateR, placeOk, hin, Bool.and_false, if_neg (fun h => nomatch h)] at hr
      subst hr
      refine satP_of_body hT Tryz.func17 (by kernel_rfl) rfl (rs := [.tmp 4, .tmp 5]) rfl (n := 21) rfl (by simp) rfl (by simpa using rowsN_pur []) fun E hE => ?_
      unfold St.init
      unfold WorldD.cells at *
      have F := And.intro @rowsV_len hin
      repeat' first
        | refine wSq fun _ hK => ?_
        | refine wRg ?_
        | refine wDr ?_
        | refine VWP_block ?_
        | refine VWP_skip ?_
        | refine VWP_exit ?_
        | refine VWP_ret ?_
        | (refine hK _ ?_; clear hK)
        | (clear hK; refine hK _ ?_; clear hK)
        | (clear hK; clear hK; refine hK _ ?_; clear hK)
        | (clear hK; clear hK; clear hK; refine hK _ ?_; clear hK)
        | (simp only [wHb, reduceCtorEq] at hb <;> try (exfalso; omega))
        | refine wCd (fun hb => ?_) fun hb => ?_
        | refine wCa (c := by first | exact hc | exact l1In_ok _ _ _) (k := ?_)
        | simp only [go_sem, Nat.reduceLT, Nat.reduceLeDiff, Nat.reduceEqDiff, Nat.reduceAdd, Nat.reduceMul, Nat.reduceSub, reduceCtorEq, F]
        | simp (disch := omega) only [decide_eq_true_eq, if_pos, if_neg, wrap_id, le_maxLen, and_true, true_and, if_true, ite_true]
        | refine wGd (fun hb => ?_) fun hb => ?_
      refine ret_mk (vs := _) (acc := _) (by simp only [go_sem, Nat.reduceLT, Nat.reduceLeDiff, Nat.reduceEqDiff, Nat.reduceAdd, Nat.reduceMul, Nat.reduceSub, reduceCtorEq, vres]; rfl) (by simp only [go_sem, Nat.reduceLT, Nat.reduceLeDiff, Nat.reduceEqDiff, Nat.reduceAdd, Nat.reduceMul, Nat.reduceSub, reduceCtorEq, wrap, exV, exAs, exA, exCs, exC]; rfl) (by simp) (by simp [rowsN]) (by simp [rowsN_pur])
  · have hpf : bP (WorldP w) = false := by simpa using hp
    rw [hpf] at hc
    rw [stateR, placeOk, hpf, Bool.false_and, if_neg (fun h => nomatch h)] at hr
    subst hr
    refine satP_of_body hT Tryz.func17 (by kernel_rfl) rfl (rs := [.tmp 4, .tmp 5]) rfl (n := 21) rfl (by simp) rfl (by simpa using rowsN_pur []) fun E hE => ?_
    unfold St.init
    unfold WorldD.cells at *
    have F := (Eq.refl 0)
    repeat' first
      | refine wSq fun _ hK => ?_
      | refine wRg ?_
      | refine wDr ?_
      | refine VWP_block ?_
      | refine VWP_skip ?_
      | refine VWP_exit ?_
      | refine VWP_ret ?_
      | (refine hK _ ?_; clear hK)
      | (clear hK; refine hK _ ?_; clear hK)
      | (clear hK; clear hK; refine hK _ ?_; clear hK)
      | (clear hK; clear hK; clear hK; refine hK _ ?_; clear hK)
      | (simp only [wHb, reduceCtorEq] at hb <;> try (exfalso; omega))
      | refine wCd (fun hb => ?_) fun hb => ?_
      | refine wCa (c := by first | exact hc) (k := ?_)
      | simp only [go_sem, Nat.reduceLT, Nat.reduceLeDiff, Nat.reduceEqDiff, Nat.reduceAdd, Nat.reduceMul, Nat.reduceSub, reduceCtorEq, F]
      | simp (disch := omega) only [decide_eq_true_eq, if_pos, if_neg, wrap_id, le_maxLen, and_true, true_and, if_true, ite_true]
      | refine wGd (fun hb => ?_) fun hb => ?_
    refine ret_mk (vs := _) (acc := _) (by simp only [go_sem, Nat.reduceLT, Nat.reduceLeDiff, Nat.reduceEqDiff, Nat.reduceAdd, Nat.reduceMul, Nat.reduceSub, reduceCtorEq, vres]; rfl) (by simp only [go_sem, Nat.reduceLT, Nat.reduceLeDiff, Nat.reduceEqDiff, Nat.reduceAdd, Nat.reduceMul, Nat.reduceSub, reduceCtorEq, wrap, exV, exAs, exA, exCs, exC]; rfl) (by simp) (by simp [rowsN]) (by simp [rowsN_pur])
theorem stateLaw_ok (w : WorldD) (p : Int) (hf : w.fits) : SatP Tryz.prog 5 [.agg (w.cells 3 122 111 145 85 143 147 97), .int .i64 p] (.bool true) [] := by
  obtain ⟨z1, z2⟩ := szW_tiny (w := w) (left := 1048576) (by omega) (by omega)
  have hc := szWorld_ok w 1048576 (by omega) (by omega) hf
  refine satP_of_body hT Tryz.func5 (by kernel_rfl) rfl (rs := [.tmp 4]) rfl (n := 101) rfl (by simp) rfl (by simp) fun E hE => ?_
  unfold St.init
  rcases Int.lt_or_le (szW w 1048576) 0 with hbig | hsm
  · have hz2 := z2 hbig
    rw [hz2] at hc
    unfold WorldD.cells at *
    have F := (Eq.refl 0)
    repeat' first
      | refine wSq fun _ hK => ?_
      | refine wRg ?_
      | refine wDr ?_
      | refine VWP_block ?_
      | refine VWP_skip ?_
      | refine VWP_exit ?_
      | refine VWP_ret ?_
      | (refine hK _ ?_; clear hK)
      | (clear hK; refine hK _ ?_; clear hK)
      | (clear hK; clear hK; refine hK _ ?_; clear hK)
      | (clear hK; clear hK; clear hK; refine hK _ ?_; clear hK)
      | (simp only [wHb, reduceCtorEq] at hb <;> try (exfalso; omega))
      | refine wCd (fun hb => ?_) fun hb => ?_
      | refine wCa (c := by first | exact hc) (k := ?_)
      | simp only [go_sem, Nat.reduceLT, Nat.reduceLeDiff, Nat.reduceEqDiff, Nat.reduceAdd, Nat.reduceMul, Nat.reduceSub, reduceCtorEq, F]
      | simp (disch := omega) only [decide_eq_true_eq, if_pos, if_neg, wrap_id, le_maxLen, and_true, true_and, if_true, ite_true]
      | refine wGd (fun hb => ?_) fun hb => ?_
    refine wLf ?_
    rfl
  · have hn : ¬ szW w 1048576 < 0 := by omega
    have hs := z1 hsm
    obtain ⟨r, hr⟩ : ∃ r, stateR w p = r := ⟨_, rfl⟩
    have hln : r.1.length ≤ 1048576 := by
      rw [← hr]
      unfold stateR
      split
      · rename_i hk; rw [placeOk, Bool.and_eq_true] at hk; have h2 := hk.2; simp [inB] at h2; rw [stateL_len w (fun _ _ => trivial) _ (by omega)]; exact hs.1
      · simp
    have ht := toWorld_ok w hs
    have hi := implState_ok w p r hr hs
    have hp := specState_ok w p r hr hs
    have hq := eqWorld_ok w w hs
    have hm := markWorld_ok w 1 (by omega) (by omega) hs
    obtain ⟨out, ok⟩ := r
    simp only at hi hp hln
    have hmt := rowsN_take (marksN 1 out.length)
    rw [marksN_len] at hmt
    obtain ⟨f1, ⟨s1, s2, s3⟩, f3, f4, f5⟩ := hs
    have hnk : ¬ 1 + (w.first.length : Int) + cntS w.store + (mkN w.threads : Int) + 4 * w.log.length < 0 := by
      have := (cntD_le w.store.descs (Nat.le_refl _)).1
      unfold cntS
      omega
    unfold WorldD.cells at *
    have F := And.intro hn (And.intro hmt (And.intro hnk (And.intro @rowsN_len (And.intro @rowsN_pur (And.intro @rowsN_take (And.intro @rowsH_len (And.intro @rowsH_pur (And.intro @rowsH_take (And.intro @rowsD_len (And.intro @rowsD_pur (And.intro @rowsD_take (And.intro @rowsTh_len (And.intro @rowsTh_pur (And.intro @rowsTh_take (And.intro @rowsV_len (And.intro @rowsV_pur (And.intro @rowsV_take (And.intro @marksN_len @Nat.le_refl))))))))))))))))))
    repeat' first
      | refine wSq fun _ hK => ?_
      | refine wRg ?_
      | refine wDr ?_
      | refine VWP_block ?_
      | refine VWP_skip ?_
      | refine VWP_exit ?_
      | refine VWP_ret ?_
      | (refine hK _ ?_; clear hK)
      | (clear hK; refine hK _ ?_; clear hK)
      | (clear hK; clear hK; refine hK _ ?_; clear hK)
      | (clear hK; clear hK; clear hK; refine hK _ ?_; clear hK)
      | (simp only [wHb, reduceCtorEq] at hb <;> try (exfalso; omega))
      | refine wCd (fun hb => ?_) fun hb => ?_
      | refine wCa (c := by first | exact hc | exact ht | exact hi | exact hp | exact hq | exact eqIntS_ok out out (by omega) | exact heldIntS_ok out.length 1 (by omega) (by omega) (by omega)) (k := ?_)
      | refine wOw [7, 8, 9, 10, 11] (c := by exact hm) (k := ?_)
      | refine wOw [13] (c := by exact markIntS_ok out 1 (by omega) (by omega) (by omega)) (k := ?_)
      | simp only [go_sem, Nat.reduceLT, Nat.reduceLeDiff, Nat.reduceEqDiff, Nat.reduceAdd, Nat.reduceMul, Nat.reduceSub, reduceCtorEq, F]
      | simp (disch := omega) only [decide_eq_true_eq, if_pos, if_neg, wrap_id, le_maxLen, and_true, true_and, if_true, ite_true]
      | refine wGd (fun hb => ?_) fun hb => ?_
    refine wLf ?_
    rfl
end Go.Proofs.YtclljpdcpcolpaaGreat
