/- Several texts in one: WA WB WC MHc MHd MDb. -/
import Derived.Test.YtljhhhlobkoocaaSI
import Derived.Test.YtljhhhlobkoocaaSQ
import Derived.Test.YtljhhhlobkoocaaPA
import Derived.Test.YtljhhhlobkoocaaEc
import Derived.Test.YtljhhhlobkoocaaMHb
/- Ways in a store: what l1Has, slices.Contains and onTheWay give. -/
namespace Go.Proofs.Ytljhhhlobkoocaa
open Go Go.RowKit
set_option linter.unusedVariables false
set_option linter.unusedSimpArgs false
set_option maxRecDepth 100000
set_option maxHeartbeats 4000000
attribute [local irreducible] VWP vops vdraw contV contD CallK Guard GuardV NextL Puts Runs RetOK RetQ RetO RetQO thenQ blockQ

def hasB (xs : List Int) (x : Int) : Bool := xs.any fun y => y == x
theorem indexN_ok (xs : List Int) (x : Int) (hl : xs.length ≤ 1048576) : SatP Try.prog 61 [.fr 3 (rowsN xs), .int .i64 x] (.int .i64 (firstI (fun y => x == y) xs)) [] := by
  refine satP_of_body hT Try.func61 (by kernel_rfl) rfl (rs := [.tmp 4]) rfl (n := 19) rfl (by simp) rfl (by simp) fun E hE => ?_
  unfold St.init
  have F := @rowsN_len
  repeat' first
    | refine wSq fun _ hK => ?_
    | refine wRg ?_
    | refine wDr ?_
    | refine VWP_block ?_
    | refine VWP_skip ?_
    | refine VWP_exit ?_
    | refine VWP_ret ?_
    | (refine hK _ ?_; clear hK)
    | (clear hK; refine hK _ ?_; clear hK)
    | (clear hK; clear hK; refine hK _ ?_; clear hK)
    | (clear hK; clear hK; clear hK; refine hK _ ?_; clear hK)
    | (simp only [wHb, reduceCtorEq] at hb <;> try (exfalso; omega))
    | refine wCd (fun hb => ?_) fun hb => ?_
    | simp only [go_sem, Nat.reduceLT, Nat.reduceLeDiff, Nat.reduceEqDiff, Nat.reduceAdd, Nat.reduceMul, Nat.reduceSub, reduceCtorEq, F]
    | simp (disch := omega) only [decide_eq_true_eq, if_pos, if_neg, wrap_id, le_maxLen, and_true, true_and, if_true, ite_true]
    | refine wGd (fun hb => ?_) fun hb => ?_
  refine VWP_loopL (X := Nat) (fun i => [(0, .fr 3 (rowsN xs)), (1, .int .i64 x), (7, .int .i64 xs.length), (8, .int .i64 i)]) (fun _ => []) (fun i => xs.length - i)
    (fun i => i ≤ xs.length ∧ ∀ (j : Nat) (y : Int), j < i → xs[j]? = some y → (x == y) = false) 0 0 ⟨by simp, by simp⟩ (by simp [updV]) (by simp) (by simp) ?_
  rintro i nx ⟨hi, hdone⟩ hB
  rcases Nat.lt_or_ge i xs.length with hlt | hge
  · obtain ⟨e, he⟩ : ∃ e, xs[i]? = some e := ⟨_, List.getElem?_eq_getElem hlt⟩
    have hre := rowsN_at he
    have F := And.intro @rowsN_len hre
    repeat' first
      | refine wSq fun _ hK => ?_
      | refine wRg ?_
      | refine wDr ?_
      | refine VWP_block ?_
      | refine VWP_skip ?_
      | refine VWP_exit ?_
      | refine VWP_ret ?_
      | (refine hK _ ?_; clear hK)
      | (clear hK; refine hK _ ?_; clear hK)
      | (clear hK; clear hK; refine hK _ ?_; clear hK)
      | (clear hK; clear hK; clear hK; refine hK _ ?_; clear hK)
      | (simp only [wHb, reduceCtorEq] at hb <;> try (exfalso; omega))
      | refine wCd (fun hb => ?_) fun hb => ?_
      | simp only [go_sem, Nat.reduceLT, Nat.reduceLeDiff, Nat.reduceEqDiff, Nat.reduceAdd, Nat.reduceMul, Nat.reduceSub, reduceCtorEq, F]
      | simp (disch := omega) only [decide_eq_true_eq, if_pos, if_neg, wrap_id, le_maxLen, and_true, true_and, if_true, ite_true]
      | refine wGd (fun hb => ?_) fun hb => ?_
    · refine wLf ?_
      rw [firstI_hit he (by simp_all) hdone]
    · have hp : (x == e) = false := by simp_all
      have hw := wrap_id (x := (i : Int) + 1) (by omega)
      refine nextL (i + 1) ⟨by omega, fun j y hj hy => ?_⟩ (by omega) (by simp [updV, tmL, hw]) (by simp) (by simp)
      rcases Nat.lt_or_ge j i with h | h
      · exact hdone j y h hy
      · obtain rfl : j = i := by omega
        rw [he] at hy; cases hy; exact hp
  · obtain rfl : i = xs.length := by omega
    have F := @rowsN_len
    repeat' first
      | refine wSq fun _ hK => ?_
      | refine wRg ?_
      | refine wDr ?_
      | refine VWP_block ?_
      | refine VWP_skip ?_
      | refine VWP_exit ?_
      | refine VWP_ret ?_
      | (refine hK _ ?_; clear hK)
      | (clear hK; refine hK _ ?_; clear hK)
      | (clear hK; clear hK; refine hK _ ?_; clear hK)
      | (clear hK; clear hK; clear hK; refine hK _ ?_; clear hK)
      | (simp only [wHb, reduceCtorEq] at hb <;> try (exfalso; omega))
      | refine wCd (fun hb => ?_) fun hb => ?_
      | simp only [go_sem, Nat.reduceLT, Nat.reduceLeDiff, Nat.reduceEqDiff, Nat.reduceAdd, Nat.reduceMul, Nat.reduceSub, reduceCtorEq, F]
      | simp (disch := omega) only [decide_eq_true_eq, if_pos, if_neg, wrap_id, le_maxLen, and_true, true_and, if_true, ite_true]
      | refine wGd (fun hb => ?_) fun hb => ?_
    refine wLf ?_
    rw [firstI_miss fun j y hy => hdone j y (List.getElem?_eq_some_iff.1 hy).1 hy]
theorem containsInt_ok (xs : List Int) (x : Int) (hl : xs.length ≤ 1048576) : SatP Try.prog 34 [.fr 3 (rowsN xs), .int .i64 x] (.bool (hasB xs x)) [] := by
  refine satP_of_body hT Try.func34 (by kernel_rfl) rfl (rs := [.tmp 4]) rfl (n := 9) rfl (by simp) rfl (by simp) fun E hE => ?_
  unfold St.init
  have F := (Eq.refl 0)
  repeat' first
    | refine wSq fun _ hK => ?_
    | refine wRg ?_
    | refine wDr ?_
    | refine VWP_block ?_
    | refine VWP_skip ?_
    | refine VWP_exit ?_
    | refine VWP_ret ?_
    | (refine hK _ ?_; clear hK)
    | (clear hK; refine hK _ ?_; clear hK)
    | (clear hK; clear hK; refine hK _ ?_; clear hK)
    | (clear hK; clear hK; clear hK; refine hK _ ?_; clear hK)
    | (simp only [wHb, reduceCtorEq] at hb <;> try (exfalso; omega))
    | refine wCd (fun hb => ?_) fun hb => ?_
    | refine wCa (c := by first | exact indexN_ok xs x hl) (k := ?_)
    | simp only [go_sem, Nat.reduceLT, Nat.reduceLeDiff, Nat.reduceEqDiff, Nat.reduceAdd, Nat.reduceMul, Nat.reduceSub, reduceCtorEq, F]
    | simp (disch := omega) only [decide_eq_true_eq, if_pos, if_neg, wrap_id, le_maxLen, and_true, true_and, if_true, ite_true]
    | refine wGd (fun hb => ?_) fun hb => ?_
  refine wLf ?_
  rw [firstI_any]
  congr 1
  unfold hasB
  congr 1
  funext y
  rw [Bool.eq_iff_iff]
  simp only [beq_iff_eq]
  exact eq_comm
end Go.Proofs.Ytljhhhlobkoocaa

/- What onTheWay gives; ways. -/
namespace Go.Proofs.Ytljhhhlobkoocaa
open Go Go.RowKit
set_option linter.unusedVariables false
set_option linter.unusedSimpArgs false
set_option maxRecDepth 100000
set_option maxHeartbeats 4000000
attribute [local irreducible] VWP vops vdraw contV contD CallK Guard GuardV NextL Puts Runs RetOK RetQ RetO RetQO thenQ blockQ

/-- The descriptor that lies over an entry's object, if it is another one. -/
def metE (s : StoreD) (d : Int) (e : EntS) : Option Int := match s.heads[e.object.toNat]? with
  | some h => if 0 ≤ h.desc ∧ h.desc ≠ d then some h.desc else none
  | none => none
def nextD (s : StoreD) (d : Nat) : Int := match s.descs[d]? with
  | some x => (x.entries.findSome? (metE s d)).getD (-1)
  | none => -1
theorem findSome_at {α β : Type} {f : α → Option β} : ∀ {l : List α} {i : Nat} {x : α} {v : β}, l[i]? = some x → f x = some v → (∀ (j : Nat) (y : α), j < i → l[j]? = some y → f y = none) → l.findSome? f = some v
  | [], i, x, v, h, _, _ => by simp at h
  | a :: l, 0, x, v, h, hv, _ => by
    simp only [List.getElem?_cons_zero, Option.some.injEq] at h
    subst h
    simp [List.findSome?, hv]
  | a :: l, i + 1, x, v, h, hv, hn => by
    have h0 := hn 0 a (by omega) rfl
    simp only [List.findSome?, h0]
    exact findSome_at (by simpa using h) hv fun j y hj hy => hn (j + 1) y (by omega) (by simpa using hy)
theorem findSome_none {α β : Type} {f : α → Option β} : ∀ {l : List α}, (∀ (j : Nat) (y : α), l[j]? = some y → f y = none) → l.findSome? f = none
  | [], _ => rfl
  | a :: l, h => by
    have h0 := h 0 a rfl
    simp only [List.findSome?, h0]
    exact findSome_none fun j y hy => h (j + 1) y (by simpa using hy)
/-- The head of an entry of a right store. -/
theorem head_of {s : StoreD} (hS : StoreP s) {d : DescS} (hd : d ∈ s.descs) {i : Nat} {e : EntS} (he : d.entries[i]? = some e) : ∃ (o : Nat) (h : HeadD), e.object = o ∧ s.heads[o]? = some h ∧ -1 ≤ h.desc ∧ h.desc < s.descs.length := by
  have hf := hS.2.2.2.1 d hd
  have hok := hf.1.2.1 i e he
  have hlt : e.object < s.heads.length := by
    have hlen : d.entries.length - 1 < d.entries.length := by have := (List.getElem?_eq_some_iff.1 he).1; omega
    have hlast := hf.2 _ (List.getElem?_eq_getElem hlen)
    have hi := (List.getElem?_eq_some_iff.1 he).1
    rcases Nat.lt_or_ge i (d.entries.length - 1) with h | h
    · obtain ⟨n, hn⟩ : ∃ n, d.entries.length - 1 = i + n + 1 := ⟨d.entries.length - 1 - i - 1, by omega⟩
      have := sorted_lt hf.1.1 n i e d.entries[d.entries.length - 1] he (by rw [← hn]; exact List.getElem?_eq_getElem hlen)
      omega
    · have hi2 : i = d.entries.length - 1 := by omega
      subst hi2
      rw [List.getElem?_eq_getElem hlen] at he
      cases he
      exact hlast
  have hpos : 0 ≤ e.object := by
    simp [EntS.ok, inB] at hok
    omega
  obtain ⟨o, ho⟩ : ∃ o : Nat, e.object = o := ⟨e.object.toNat, by omega⟩
  have hol : o < s.heads.length := by omega
  have hb := hS.2.2.2.2 o _ (List.getElem?_eq_getElem hol)
  refine ⟨o, s.heads[o], ho, List.getElem?_eq_getElem hol, ?_⟩
  have hb2 : inB s.heads[o].desc (-1) ((s.descs.length : Int) - 1) = true := by
    unfold headB at hb
    simp only [Bool.and_eq_true] at hb
    exact hb.1.2
  simp [inB] at hb2
  omega
theorem nextD_lt {s : StoreD} (hS : StoreP s) (d : Nat) : -1 ≤ nextD s d ∧ nextD s d < s.descs.length := by
  unfold nextD
  cases hd : s.descs[d]? with
  | none => simp; omega
  | some x =>
    simp only
    cases hf : x.entries.findSome? (metE s d) with
    | none => simp; omega
    | some v =>
      simp only [Option.getD_some]
      obtain ⟨e, he, hv⟩ := List.exists_of_findSome?_eq_some hf
      obtain ⟨i, hi⟩ := List.getElem?_of_mem he
      obtain ⟨o, h, h1, h2, h3, h4⟩ := head_of hS (List.mem_of_getElem? hd) hi
      simp only [metE, h1, Int.toNat_natCast, h2] at hv
      split at hv
      · cases hv; exact ⟨h3, h4⟩
      · cases hv
theorem onTheWay_ok (s : StoreD) (hs : s.small) (hS : StoreP s) (d : Nat) (hd : d < s.descs.length) : SatP Try.prog 35 [.agg (s.cells 40 38 76), .int .i64 d] (.int .i64 (nextD s d)) [] := by
  obtain ⟨f1, f2, f3⟩ := hs
  obtain ⟨x, hx⟩ : ∃ x, s.descs[d]? = some x := ⟨_, List.getElem?_eq_getElem hd⟩
  have hrx := rowsD_at (te := 76) hx
  have hxm := List.mem_of_getElem? hx
  have hxe := f3 x hxm
  refine satP_of_body hT Try.func35 (by kernel_rfl) rfl (rs := [.tmp 4]) rfl (n := 35) rfl (by simp) rfl (by simp) fun E hE => ?_
  unfold St.init
  unfold StoreD.cells
  have F := And.intro @rowsD_len (And.intro @rowsE_len (And.intro hrx hd))
  repeat' first
    | refine wSq fun _ hK => ?_
    | refine wRg ?_
    | refine wDr ?_
    | refine VWP_block ?_
    | refine VWP_skip ?_
    | refine VWP_exit ?_
    | refine VWP_ret ?_
    | (refine hK _ ?_; clear hK)
    | (clear hK; refine hK _ ?_; clear hK)
    | (clear hK; clear hK; refine hK _ ?_; clear hK)
    | (clear hK; clear hK; clear hK; refine hK _ ?_; clear hK)
    | (simp only [wHb, reduceCtorEq] at hb <;> try (exfalso; omega))
    | refine wCd (fun hb => ?_) fun hb => ?_
    | simp only [go_sem, Nat.reduceLT, Nat.reduceLeDiff, Nat.reduceEqDiff, Nat.reduceAdd, Nat.reduceMul, Nat.reduceSub, reduceCtorEq, F]
    | simp (disch := omega) only [decide_eq_true_eq, if_pos, if_neg, wrap_id, le_maxLen, and_true, true_and, if_true, ite_true]
    | refine wGd (fun hb => ?_) fun hb => ?_
  refine VWP_loopL (X := Nat) (fun i => [(1, .int .i64 d), (2, .bp 0 0), (13, .fr 76 (rowsE x.entries)), (14, .int .i64 x.entries.length), (15, .int .i64 i)]) (fun _ => [(0, .box [.fr 40 (rowsH s.heads), .fr 38 (rowsD 76 s.descs)])]) (fun i => x.entries.length - i)
    (fun i => i ≤ x.entries.length ∧ ∀ (j : Nat) (e : EntS), j < i → x.entries[j]? = some e → metE s d e = none) 1 0 ⟨by simp, by simp⟩ (by simp [updV]) (by simp [updH]) (by simp) ?_
  rintro i nx ⟨hi, hdone⟩ hB
  rcases Nat.lt_or_ge i x.entries.length with hlt | hge
  · obtain ⟨e, he⟩ : ∃ e, x.entries[i]? = some e := ⟨_, List.getElem?_eq_getElem hlt⟩
    obtain ⟨o, h, h1, h2, h3, h4⟩ := head_of hS hxm he
    have hre := rowsE_at he
    have hrh := rowsH_at h2
    have hol := (List.getElem?_eq_some_iff.1 h2).1
    have hne : nx ≠ 0 := by omega
    have hne2 : (0 : Nat) ≠ nx := by omega
    have hw := wrap_id (x := (i : Int) + 1) (by omega)
    have hm : metE s d e = if 0 ≤ h.desc ∧ h.desc ≠ d then some h.desc else none := by simp [metE, h1, h2]
    have hyes : 0 ≤ h.desc → h.desc ≠ d → nextD s d = h.desc := fun k1 k2 => by
      rw [if_pos ⟨k1, k2⟩] at hm
      simp [nextD, hx, findSome_at he hm hdone]
    have hno : ¬ (0 ≤ h.desc ∧ h.desc ≠ d) → ∀ (j : Nat) (g : EntS), j < i + 1 → x.entries[j]? = some g → metE s d g = none := fun k j g hj hg => by
      rcases Nat.lt_or_ge j i with h5 | h5
      · exact hdone j g h5 hg
      · obtain rfl : j = i := by omega
        rw [he] at hg; cases hg
        rw [hm, if_neg k]
    have F := And.intro @rowsE_len (And.intro @rowsH_len (And.intro hre (And.intro hrh (And.intro hol (And.intro h1 (And.intro hne hne2))))))
    repeat' first
      | refine wSq fun _ hK => ?_
      | refine wRg ?_
      | refine wDr ?_
      | refine VWP_block ?_
      | refine VWP_skip ?_
      | refine VWP_exit ?_
      | refine VWP_ret ?_
      | (refine hK _ ?_; clear hK)
      | (clear hK; refine hK _ ?_; clear hK)
      | (clear hK; clear hK; refine hK _ ?_; clear hK)
      | (clear hK; clear hK; clear hK; refine hK _ ?_; clear hK)
      | (simp only [wHb, reduceCtorEq] at hb <;> try (exfalso; omega))
      | refine wCd (fun hb => ?_) fun hb => ?_
      | simp only [go_sem, Nat.reduceLT, Nat.reduceLeDiff, Nat.reduceEqDiff, Nat.reduceAdd, Nat.reduceMul, Nat.reduceSub, reduceCtorEq, F]
      | simp (disch := omega) only [decide_eq_true_eq, if_pos, if_neg, wrap_id, le_maxLen, and_true, true_and, if_true, ite_true]
      | refine wGd (fun hb => ?_) fun hb => ?_
    all_goals first
      | (refine wLf ?_
         rw [hyes (by simp_all) (by simp_all)]
         done)
      | (refine nextL (i + 1) ⟨by omega, hno (fun k => by first | exact absurd k.1 (by assumption) | exact absurd k.1 (by omega) | exact k.2 (by simpa using hb))⟩ (by omega) (by simp [updV, tmL, hw]) (by simp [updH, hpL, hne2]) (by omega))
  · obtain rfl : i = x.entries.length := by omega
    have F := @rowsE_len
    repeat' first
      | refine wSq fun _ hK => ?_
      | refine wRg ?_
      | refine wDr ?_
      | refine VWP_block ?_
      | refine VWP_skip ?_
      | refine VWP_exit ?_
      | refine VWP_ret ?_
      | (refine hK _ ?_; clear hK)
      | (clear hK; refine hK _ ?_; clear hK)
      | (clear hK; clear hK; refine hK _ ?_; clear hK)
      | (clear hK; clear hK; clear hK; refine hK _ ?_; clear hK)
      | (simp only [wHb, reduceCtorEq] at hb <;> try (exfalso; omega))
      | refine wCd (fun hb => ?_) fun hb => ?_
      | simp only [go_sem, Nat.reduceLT, Nat.reduceLeDiff, Nat.reduceEqDiff, Nat.reduceAdd, Nat.reduceMul, Nat.reduceSub, reduceCtorEq, F]
      | simp (disch := omega) only [decide_eq_true_eq, if_pos, if_neg, wrap_id, le_maxLen, and_true, true_and, if_true, ite_true]
      | refine wGd (fun hb => ?_) fun hb => ?_
    refine wLf ?_
    have : x.entries.findSome? (metE s d) = none := findSome_none fun j e he => hdone j e (List.getElem?_eq_some_iff.1 he).1 he
    simp [nextD, hx, this]
end Go.Proofs.Ytljhhhlobkoocaa

/- What the program's Depth gives. -/
namespace Go.Proofs.Ytljhhhlobkoocaa
open Go Go.RowKit
set_option linter.unusedVariables false
set_option linter.unusedSimpArgs false
set_option maxRecDepth 100000
set_option maxHeartbeats 4000000
attribute [local irreducible] VWP vops vdraw contV contD CallK Guard GuardV NextL Puts Runs RetOK RetQ RetO RetQO thenQ blockQ
attribute [local irreducible] NextB

/-- How long the way from a descriptor on is, behind one that was gone. -/
inductive Way (s : StoreD) : List Int → Int → Nat → Prop
  | stop (w : List Int) (f : Int) : ¬ (0 ≤ f ∧ hasB w f = false) → Way s w f w.length
  | step (w : List Int) (f : Int) (r : Nat) : 0 ≤ f → hasB w f = false → Way s (w ++ [f]) (nextD s f.toNat) r → Way s w f r
theorem Way.on {s : StoreD} {w : List Int} {f : Int} {r : Nat} (h : Way s w f r) (h0 : 0 ≤ f) (h1 : hasB w f = false) : Way s (w ++ [f]) (nextD s f.toNat) r := by
  cases h with
  | stop _ _ hn => exact absurd ⟨h0, h1⟩ hn
  | step _ _ _ _ _ h => exact h
theorem Way.done {s : StoreD} {w : List Int} {f : Int} {r : Nat} (h : Way s w f r) (hn : ¬ (0 ≤ f ∧ hasB w f = false)) : r = w.length := by
  cases h with
  | stop _ _ _ => rfl
  | step _ _ _ h0 h1 _ => exact absurd ⟨h0, h1⟩ hn
def leftN (n : Nat) (w : List Int) : Nat := (List.range n).countP fun (x : Nat) => !hasB w (x : Int)
theorem countP_lt {p q : Nat → Bool} (h : ∀ x, q x = true → p x = true) : ∀ {l : List Nat} {a : Nat}, a ∈ l → p a = true → q a = false → l.countP q < l.countP p
  | [], a, ha, _, _ => by simp at ha
  | b :: l, a, ha, hp, hq => by
    have hle : l.countP q ≤ l.countP p := List.countP_mono_left fun x _ hx => h x hx
    simp only [List.countP_cons]
    rcases List.mem_cons.1 ha with rfl | ha
    · rw [hp, hq]
      simp
      omega
    · have := countP_lt h ha hp hq
      cases hqb : q b with
      | true => rw [h b hqb]; simp; omega
      | false => simp; split <;> omega
theorem hasB_app (w : List Int) (f x : Int) : hasB (w ++ [f]) x = (hasB w x || f == x) := by simp [hasB]
theorem leftN_lt {n d : Nat} {w : List Int} (hd : d < n) (h : hasB w d = false) : leftN n (w ++ [(d : Int)]) < leftN n w := by
  refine countP_lt (fun x hx => ?_) (List.mem_range.2 hd) (by simp [h]) (by simp [hasB_app])
  simp only [hasB_app, Bool.not_or, Bool.and_eq_true] at hx
  exact hx.1
theorem way_ex {s : StoreD} (hS : StoreP s) : ∀ (m : Nat) (w : List Int) (f : Int), leftN s.descs.length w = m → f < s.descs.length → ∃ r, Way s w f r := by
  intro m
  induction m using Nat.strongRecOn with
  | ind m ih =>
    intro w f hm hf
    by_cases h : 0 ≤ f ∧ hasB w f = false
    · obtain ⟨h0, h1⟩ := h
      obtain ⟨d, rfl⟩ : ∃ d : Nat, f = d := ⟨f.toNat, by omega⟩
      have hlt := leftN_lt (n := s.descs.length) (d := d) (by omega) h1
      obtain ⟨r, hr⟩ := ih _ (by omega) (w ++ [(d : Int)]) (nextD s (d : Int).toNat) rfl (nextD_lt hS _).2
      exact ⟨r, .step w d r h0 h1 hr⟩
    · exact ⟨_, .stop w f h⟩
noncomputable def depthOk (s : StoreD) (f : Int) : Bool := bP (StoreP s) && inB f 0 ((s.descs.length : Int) - 1)
/-- The depth of a descriptor. -/
def DepthR (s : StoreD) (f : Int) (r : Nat) : Prop := if depthOk s f = true then Way s [] f r else r = 0
theorem depth_ex (s : StoreD) (f : Int) : ∃ r, DepthR s f r := by
  unfold DepthR
  split
  · rename_i h
    simp only [depthOk, Bool.and_eq_true] at h
    have h2 := h.2
    simp [inB] at h2
    exact way_ex (bP_iff.1 h.1) _ [] f rfl (by omega)
  · exact ⟨0, rfl⟩
theorem leftN_nil (n : Nat) : leftN n [] = n := by simp [leftN, hasB]
theorem rowsN_snoc (w : List Int) (f : Int) : rowsN w ++ [[.int .i64 f]] = rowsN (w ++ [f]) := by simp [rowsN, encN]
theorem implDepth_ok (s : StoreD) (f : Int) (r : Nat) (hr : DepthR s f r) (hs : s.small) : SatP Try.prog 16 [.agg (s.cells 40 38 76), .int .i64 f] (.int .i64 r) [] := by
  have hc := implStoreOk_ok s hs
  have hway : ∀ (hS : StoreP s) (d : Nat), d < s.descs.length → _ := fun hS d hd => onTheWay_ok s hs hS d hd
  obtain ⟨f1, f2, f3⟩ := hs
  refine satP_of_body hT Try.func16 (by kernel_rfl) rfl (rs := [.tmp 4]) rfl (n := 36) rfl (by simp) rfl (by simp) fun E hE => ?_
  unfold St.init
  unfold StoreD.cells at *
  have hws := wrap_id (x := (s.descs.length : Int) - 1) (by omega)
  by_cases hok : depthOk s f = true
  · rw [DepthR, if_pos hok] at hr
    simp only [depthOk, Bool.and_eq_true] at hok
    obtain ⟨hp, h1⟩ := hok
    have hS := bP_iff.1 hp
    have hfr : 0 ≤ f ∧ f < s.descs.length := by simp [inB] at h1; omega
    have F := And.intro @rowsD_len (And.intro @rowsH_len (And.intro hws (And.intro h1 hp)))
    repeat' first
      | refine wSq fun _ hK => ?_
      | refine wRg ?_
      | refine wDr ?_
      | refine VWP_block ?_
      | refine VWP_skip ?_
      | refine VWP_exit ?_
      | refine VWP_ret ?_
      | (refine hK _ ?_; clear hK)
      | (clear hK; refine hK _ ?_; clear hK)
      | (clear hK; clear hK; refine hK _ ?_; clear hK)
      | (clear hK; clear hK; clear hK; refine hK _ ?_; clear hK)
      | (simp only [wHb, reduceCtorEq] at hb <;> try (exfalso; omega))
      | refine wCd (fun hb => ?_) fun hb => ?_
      | refine wCa (c := by first | exact hc | exact in_ok _ _ _) (k := ?_)
      | simp only [go_sem, Nat.reduceLT, Nat.reduceLeDiff, Nat.reduceEqDiff, Nat.reduceAdd, Nat.reduceMul, Nat.reduceSub, reduceCtorEq, F]
      | simp (disch := omega) only [decide_eq_true_eq, if_pos, if_neg, wrap_id, le_maxLen, and_true, true_and, if_true, ite_true]
      | refine wGd (fun hb => ?_) fun hb => ?_
    refine VWP_loopB (X := List Int × Int × Nat) (fun x => [(1, .int .i64 x.2.1), (2, .bp 0 0), (5, .rf x.2.2 x.1.length)]) (fun x => [(0, .box [.fr 40 (rowsH s.heads), .fr 38 (rowsD 76 s.descs)]), (x.2.2, .root 3 (rowsN x.1))]) (fun x => leftN s.descs.length x.1)
      (fun x => 1 ≤ x.2.2 ∧ Way s x.1 x.2.1 r ∧ x.2.1 < s.descs.length ∧ x.1.length + leftN s.descs.length x.1 ≤ s.descs.length) (fun x => x.2.2 + 1) ([], f, 1) ⟨by simp, hr, hfr.2, by simp [leftN_nil]⟩ (by simp [updV]) (by simp [updH, rowsN]) (by simp) ?_
    rintro ⟨w, g, T⟩ nx ⟨hT1, hW, hg, hlen⟩ hB
    simp only at hT1 hW hg hlen hB
    have hne0 : (0 : Nat) ≠ T := by omega
    have hne1 : T ≠ 0 := by omega
    have ht1 := rowsN_take w
    have ht2 := rowsN_snoc w g
    rcases Int.lt_or_le g 0 with hneg | hpos
    · have hn : ¬ 0 ≤ g := by omega
      have F := And.intro @rowsN_len (And.intro @rowsN_pur (And.intro ht1 (And.intro hn (And.intro hne0 (And.intro hne1 @Nat.le_refl)))))
      repeat' first
        | refine wSq fun _ hK => ?_
        | refine wRg ?_
        | refine wDr ?_
        | refine VWP_block ?_
        | refine VWP_skip ?_
        | refine VWP_exit ?_
        | refine VWP_ret ?_
        | (refine hK _ ?_; clear hK)
        | (clear hK; refine hK _ ?_; clear hK)
        | (clear hK; clear hK; refine hK _ ?_; clear hK)
        | (clear hK; clear hK; clear hK; refine hK _ ?_; clear hK)
        | (simp only [wHb, reduceCtorEq] at hb <;> try (exfalso; omega))
        | refine wCd (fun hb => ?_) fun hb => ?_
        | refine wCa (c := by first | exact containsInt_ok w g (by omega)) (k := ?_)
        | simp only [go_sem, Nat.reduceLT, Nat.reduceLeDiff, Nat.reduceEqDiff, Nat.reduceAdd, Nat.reduceMul, Nat.reduceSub, reduceCtorEq, F]
        | simp (disch := omega) only [decide_eq_true_eq, if_pos, if_neg, wrap_id, le_maxLen, and_true, true_and, if_true, ite_true]
        | refine wGd (fun hb => ?_) fun hb => ?_
      refine wLf ?_
      rw [hW.done (fun h => hn h.1)]
    · obtain ⟨d, rfl⟩ : ∃ d : Nat, g = d := ⟨g.toNat, by omega⟩
      have hd : d < s.descs.length := by omega
      have hd0 : (0 : Int) ≤ (d : Nat) := by omega
      cases hh : hasB w d with
      | true =>
        have F := And.intro @rowsN_len (And.intro @rowsN_pur (And.intro ht1 (And.intro hd0 (And.intro hh (And.intro hne0 (And.intro hne1 @Nat.le_refl))))))
        repeat' first
          | refine wSq fun _ hK => ?_
          | refine wRg ?_
          | refine wDr ?_
          | refine VWP_block ?_
          | refine VWP_skip ?_
          | refine VWP_exit ?_
          | refine VWP_ret ?_
          | (refine hK _ ?_; clear hK)
          | (clear hK; refine hK _ ?_; clear hK)
          | (clear hK; clear hK; refine hK _ ?_; clear hK)
          | (clear hK; clear hK; clear hK; refine hK _ ?_; clear hK)
          | (simp only [wHb, reduceCtorEq] at hb <;> try (exfalso; omega))
          | refine wCd (fun hb => ?_) fun hb => ?_
          | refine wCa (c := by first | exact containsInt_ok w d (by omega)) (k := ?_)
          | simp only [go_sem, Nat.reduceLT, Nat.reduceLeDiff, Nat.reduceEqDiff, Nat.reduceAdd, Nat.reduceMul, Nat.reduceSub, reduceCtorEq, F]
          | simp (disch := omega) only [decide_eq_true_eq, if_pos, if_neg, wrap_id, le_maxLen, and_true, true_and, if_true, ite_true]
          | refine wGd (fun hb => ?_) fun hb => ?_
        refine wLf ?_
        rw [hW.done (fun h => by rw [hh] at h; cases h.2)]
      | false =>
        have hlt := leftN_lt hd hh
        have F := And.intro @rowsN_len (And.intro @rowsN_pur (And.intro ht1 (And.intro ht2 (And.intro hd0 (And.intro hh (And.intro hne0 (And.intro hne1 @Nat.le_refl)))))))
        repeat' first
          | refine wSq fun _ hK => ?_
          | refine wRg ?_
          | refine wDr ?_
          | refine VWP_block ?_
          | refine VWP_skip ?_
          | refine VWP_exit ?_
          | refine VWP_ret ?_
          | (refine hK _ ?_; clear hK)
          | (clear hK; refine hK _ ?_; clear hK)
          | (clear hK; clear hK; refine hK _ ?_; clear hK)
          | (clear hK; clear hK; clear hK; refine hK _ ?_; clear hK)
          | (simp only [wHb, reduceCtorEq] at hb <;> try (exfalso; omega))
          | refine wCd (fun hb => ?_) fun hb => ?_
          | refine wCa (c := by first | exact containsInt_ok w d (by omega) | exact hway hS d hd) (k := ?_)
          | simp only [go_sem, Nat.reduceLT, Nat.reduceLeDiff, Nat.reduceEqDiff, Nat.reduceAdd, Nat.reduceMul, Nat.reduceSub, reduceCtorEq, F]
          | simp (disch := omega) only [decide_eq_true_eq, if_pos, if_neg, wrap_id, le_maxLen, and_true, true_and, if_true, ite_true]
          | refine wGd (fun hb => ?_) fun hb => ?_
        have hW2 := hW.on hd0 hh
        rw [Int.toNat_natCast] at hW2
        refine nextB (w ++ [(d : Int)], nextD s d, nx + 1) ⟨by simp only; omega, hW2, (nextD_lt hS d).2, by simp only [List.length_append, List.length_singleton]; omega⟩ hlt (by simp [updV, tmL]) ?_ (by simp)
        have e1 : (0 : Nat) ≠ nx := by omega
        have e2 : nx + 1 ≠ T := by omega
        simp [updH, hpL, e1, hne0]
  · rw [DepthR, if_neg hok] at hr
    subst hr
    have c0 : (bP (StoreP s) && inB f 0 ((s.descs.length : Int) - 1)) = false := by
      unfold depthOk at hok
      simpa using hok
    have F := And.intro @rowsD_len (And.intro @rowsH_len hws)
    repeat' first
      | refine wSq fun _ hK => ?_
      | refine wRg ?_
      | refine wDr ?_
      | refine VWP_block ?_
      | refine VWP_skip ?_
      | refine VWP_exit ?_
      | refine VWP_ret ?_
      | (refine hK _ ?_; clear hK)
      | (clear hK; refine hK _ ?_; clear hK)
      | (clear hK; clear hK; refine hK _ ?_; clear hK)
      | (clear hK; clear hK; clear hK; refine hK _ ?_; clear hK)
      | (simp only [wHb, reduceCtorEq] at hb <;> try (exfalso; omega))
      | refine wCd (fun hb => ?_) fun hb => ?_
      | refine wCa (c := by first | exact hc | exact in_ok _ _ _) (k := ?_)
      | simp only [go_sem, Nat.reduceLT, Nat.reduceLeDiff, Nat.reduceEqDiff, Nat.reduceAdd, Nat.reduceMul, Nat.reduceSub, reduceCtorEq, F]
      | simp (disch := omega) only [decide_eq_true_eq, if_pos, if_neg, wrap_id, le_maxLen, and_true, true_and, if_true, ite_true]
      | refine wGd (fun hb => ?_) fun hb => ?_
    all_goals first
      | (refine wLf ?_
         rfl
         done)
      | (exfalso; simp_all; done)
end Go.Proofs.Ytljhhhlobkoocaa

/- How many steps a stack has before it (plain). -/
namespace Go.Proofs.Ytljhhhlobkoocaa
open Go Go.RowKit
set_option linter.unusedVariables false
set_option linter.unusedSimpArgs false
set_option maxRecDepth 100000
set_option maxHeartbeats 4000000
attribute [local irreducible] VWP vops vdraw contV contD CallK Guard GuardV NextL Puts Runs RetOK RetQ RetO RetQO thenQ blockQ

theorem dstep_lies {s : StoreD} {f : FrameD} {r : StoreD × FrameD × Int} (h : DStep s f r) {k o : Nat} (hk : (k : Int) ≠ f.desc) : LiesOn r.1 k o ↔ LiesOn s k o := by
  cases ho : s.heads[o]? with
  | none =>
    have h2 : r.1.heads[o]? = none := by
      rw [List.getElem?_eq_none_iff] at ho ⊢
      rw [h.hl]; exact ho
    simp [LiesOn, ho, h2]
  | some x =>
    obtain ⟨x', h1, h2⟩ := h.hd o x ho
    rw [liesAt h1, liesAt ho]
    rcases h2 with rfl | ⟨h2, rfl⟩ | ⟨h2, _, h3, _⟩
    · rfl
    · simp only; omega
    · omega
/-- While a descriptor is not decided, it lets nothing go. -/
theorem dstep_keep {s : StoreD} {f : FrameD} {r : StoreD × FrameD × Int} (h : DStep s f r) (hF : FrP s f) {k o : Nat} {d : DescS} (hk : f.desc = k) (hd : s.descs[k]? = some d) (hs : d.status = 0) (hl : LiesOn s k o) : LiesOn r.1 k o := by
  obtain ⟨x, h1, h2⟩ := hl
  obtain ⟨x', h3, h4⟩ := h.hd o x h1
  rw [liesAt h3]
  rcases h4 with rfl | ⟨h4, rfl⟩ | ⟨h4, h5, _⟩
  · exact h2
  · omega
  · exact absurd hs (hF.p4 k d hk hd h5).1

/-- How many steps a frame has before it, at most, if it meets no other. -/
def cost (s : StoreD) (f : FrameD) : Nat := match s.descs[f.desc.toNat]? with
  | none => 0
  | some d => if f.phase = 0 then 2 * d.entries.length + 2 else if f.phase = 1 then 2 * d.entries.length + 1 - f.place.toNat else if f.phase = 4 then d.entries.length - f.place.toNat else d.entries.length + 1
theorem cost_at {s : StoreD} {f : FrameD} {k : Nat} {d : DescS} (hk : f.desc = k) (hd : s.descs[k]? = some d) : cost s f = if f.phase = 0 then 2 * d.entries.length + 2 else if f.phase = 1 then 2 * d.entries.length + 1 - f.place.toNat else if f.phase = 4 then d.entries.length - f.place.toNat else d.entries.length + 1 := by
  unfold cost
  rw [hk, Int.toNat_natCast, hd]
theorem dstep_cost {s : StoreD} {f : FrameD} (hS : StoreP s) (hf : frmB s f = true) (h5 : f.phase ≠ 5) : 1 ≤ cost s f ∧ ((driveF s f).2.2 = -1 → (driveF s f).2.1.phase ≠ 5 → cost (driveF s f).1 (driveF s f).2.1 < cost s f) ∧ (0 ≤ (driveF s f).2.2 → 2 ≤ cost s f) := by
  have hd := dstep hS hf
  obtain ⟨k, d, j, e, o, h, ha⟩ := at_ex hS hf
  obtain ⟨st, q1, _⟩ := hd.ds k d ha.dk
  have hc := cost_at ha.fk ha.dk
  have hc' := cost_at (f := (driveF s f).2.1) (by rw [hd.desc]; exact ha.fk) q1
  have hjl := (List.getElem?_eq_some_iff.1 ha.ej).1
  have a3 := ha.fj
  have hph : 0 ≤ f.phase ∧ f.phase ≤ 5 := by
    unfold frmB at hf
    simp only [Bool.and_eq_true] at hf
    have := hf.1.2
    simp [inB] at this
    omega
  rw [hc, hc']
  clear hc hc' q1 hd
  rw [driveF_at ha]
  have hp : f.phase = 0 ∨ f.phase = 1 ∨ f.phase = 2 ∨ f.phase = 3 ∨ f.phase = 4 := by omega
  rcases hp with p | p | p | p | p
  · have hr : driveM s f k d e o h = (s, ⟨f.desc, if d.status = 0 then 1 else 4, 0⟩, -1) := by simp [driveM, p]
    rw [hr, p]
    by_cases c : d.status = 0
    · simp only [if_pos c]; simp
    · simp only [if_neg c]; simp; omega
  · have hr : driveM s f k d e o h = (if h.desc = f.desc then (s, onwardM d.entries.length f 2, -1)
    else if 0 ≤ h.desc then (s, ⟨f.desc, 0, 0⟩, h.desc)
    else if h.version ≠ e.version then (s, ⟨f.desc, 3, 0⟩, -1)
    else (⟨s.heads.set o ⟨h.value, h.version, f.desc⟩, s.descs⟩, onwardM d.entries.length f 2, -1)) := by simp [driveM, p]
    rw [hr]
    have hon : (onwardM d.entries.length f 2 = ⟨f.desc, 1, f.place + 1⟩ ∧ f.place + 1 < d.entries.length) ∨ onwardM d.entries.length f 2 = ⟨f.desc, 2, 0⟩ := by
      unfold onwardM
      split
      · rename_i c; rw [p]; exact .inl ⟨rfl, c⟩
      · exact .inr rfl
    rw [p]
    clear hr
    by_cases c1 : h.desc = f.desc
    · rw [if_pos c1]
      rcases hon with ⟨hon, c⟩ | hon <;> rw [hon] <;> simp <;> omega
    rw [if_neg c1]
    by_cases c2 : 0 ≤ h.desc
    · rw [if_pos c2]; simp; omega
    rw [if_neg c2]
    by_cases c3 : h.version ≠ e.version
    · rw [if_pos c3]; simp; omega
    · rw [if_neg c3]
      rcases hon with ⟨hon, c⟩ | hon <;> rw [hon] <;> simp <;> omega
  · have hr : ∃ x, driveM s f k d e o h = (x, ⟨f.desc, 4, 0⟩, -1) := ⟨_, by simp [driveM, p]; rfl⟩
    obtain ⟨x, hr⟩ := hr
    rw [hr, p]
    simp
  · have hr : ∃ x, driveM s f k d e o h = (x, ⟨f.desc, 4, 0⟩, -1) := ⟨_, by simp [driveM, p]; rfl⟩
    obtain ⟨x, hr⟩ := hr
    rw [hr, p]
    simp
  · have hr : ∃ x, driveM s f k d e o h = (x, onwardM d.entries.length f 5, -1) := ⟨_, by simp [driveM, p]; rfl⟩
    obtain ⟨x, hr⟩ := hr
    have hon : (onwardM d.entries.length f 5 = ⟨f.desc, 4, f.place + 1⟩ ∧ f.place + 1 < d.entries.length) ∨ onwardM d.entries.length f 5 = ⟨f.desc, 5, 0⟩ := by
      unfold onwardM
      split
      · rename_i c; rw [p]; exact .inl ⟨rfl, c⟩
      · exact .inr rfl
    rw [hr, p]
    rcases hon with ⟨hon, c⟩ | hon <;> rw [hon] <;> simp <;> omega

theorem filter_lt {p q : Nat → Bool} : ∀ {l : List Nat} {x : Nat}, (∀ y ∈ l, p y = true → q y = true) → x ∈ l → q x = true → p x = false → (l.filter p).length < (l.filter q).length
  | [], x, _, hx, _, _ => by simp at hx
  | y :: l, x, h, hx, hq, hp => by
    have hle : ∀ (l : List Nat), (∀ y ∈ l, p y = true → q y = true) → (l.filter p).length ≤ (l.filter q).length := by
      intro l
      induction l with
      | nil => intro _; simp
      | cons y l ih =>
        intro h
        have := ih fun z hz => h z (List.mem_cons_of_mem _ hz)
        have hy := h y (List.mem_cons_self ..)
        simp only [List.filter_cons]
        cases c : p y with
        | true => rw [hy c]; simp; exact this
        | false => cases c2 : q y <;> simp <;> omega
    have hl := hle l fun z hz => h z (List.mem_cons_of_mem _ hz)
    simp only [List.filter_cons]
    rcases List.mem_cons.1 hx with rfl | hx
    · rw [hq, hp]; simp; omega
    · have ih := filter_lt (fun z hz => h z (List.mem_cons_of_mem _ hz)) hx hq hp
      have hy := h y (List.mem_cons_self ..)
      cases c : p y with
      | true => rw [hy c]; simp; exact ih
      | false => cases c2 : q y <;> simp <;> omega

/-- A descriptor lies over something. -/
def LiveP (s : StoreD) (k : Nat) : Prop := ∃ o, LiesOn s k o
noncomputable def liveN (s : StoreD) (fs : List FrameD) : Nat := ((List.range s.descs.length).filter fun k => bP (LiveP s k ∧ (k : Int) ∉ fs.map (·.desc))).length
noncomputable def potF (s : StoreD) (fs : List FrameD) : Nat := match fs.getLast? with
  | none => 0
  | some f => 30 * liveN s fs + 15 * (fs.length - 1) + cost s f

/-- A frame waits for the next one's descriptor. -/
def Wants (s : StoreD) (f g : FrameD) : Prop := f.phase = 0 ∧ f.place = 0 ∧ ∃ (k : Nat) (d : DescS) (i : Nat) (e : EntS), f.desc = k ∧ s.descs[k]? = some d ∧ d.status = 0 ∧ d.entries[i]? = some e ∧
  ∀ (k' : Nat) (d' : DescS), g.desc = k' → s.descs[k']? = some d' → d'.status = 0 → LiesOn s k' e.object.toNat
def Chain (s : StoreD) : List FrameD → Prop
  | f :: g :: l => Wants s f g ∧ Chain s (g :: l)
  | _ => True
structure HInv (s : StoreD) (fs : List FrameD) : Prop where
  st : StoreP s
  pre : PreP s
  chain : Chain s fs
  nod : (fs.map (·.desc)).Nodup
  frm : ∀ f ∈ fs, frmB s f = true
  top : ∀ f, fs.getLast? = some f → FrP s f ∧ f.phase ≠ 5

theorem chain_app {s : StoreD} : ∀ {l : List FrameD} {f g : FrameD}, Chain s (l ++ [f, g]) ↔ Chain s (l ++ [f]) ∧ Wants s f g
  | [], f, g => by simp [Chain]
  | [a], f, g => by simp [Chain]
  | a :: b :: l, f, g => by
    have := chain_app (s := s) (l := b :: l) (f := f) (g := g)
    simp only [List.cons_append] at this ⊢
    simp only [Chain]
    rw [this]
    exact and_assoc.symm
theorem chain_init {s : StoreD} : ∀ {l : List FrameD} {f : FrameD}, Chain s (l ++ [f]) → Chain s l
  | [], f, _ => trivial
  | [a], f, _ => trivial
  | a :: b :: l, f, h => by
    simp only [List.cons_append, Chain] at h ⊢
    exact ⟨h.1, chain_init (l := b :: l) h.2⟩
theorem chain_mono {s s' : StoreD} : ∀ {l : List FrameD}, (∀ a b, a ∈ l → b ∈ l → Wants s a b → Wants s' a b) → Chain s l → Chain s' l
  | [], _, _ => trivial
  | [a], _, _ => trivial
  | a :: b :: l, h, hc => ⟨h a b (by simp) (by simp) hc.1, chain_mono (fun x y hx hy => h x y (List.mem_cons_of_mem _ hx) (List.mem_cons_of_mem _ hy)) hc.2⟩
end Go.Proofs.Ytljhhhlobkoocaa

/- One step of a stack that is helped alone (plain). -/
namespace Go.Proofs.Ytljhhhlobkoocaa
open Go Go.RowKit
set_option linter.unusedVariables false
set_option linter.unusedSimpArgs false
set_option maxRecDepth 100000
set_option maxHeartbeats 4000000
attribute [local irreducible] VWP vops vdraw contV contD CallK Guard GuardV NextL Puts Runs RetOK RetQ RetO RetQO thenQ blockQ

theorem nodup_le : ∀ (n : Nat) (l : List Int), l.Nodup → (∀ x ∈ l, 0 ≤ x ∧ x < n) → l.length ≤ n
  | 0, l, _, h => by
    cases l with
    | nil => simp
    | cons a l => have := h a (by simp); omega
  | n + 1, l, hn, h => by
    by_cases hm : (n : Int) ∈ l
    · have h1 := nodup_le n (l.erase (n : Int)) (hn.erase _) fun x hx => by
        have h2 := h x (List.mem_of_mem_erase hx)
        have h3 : x ≠ n := fun hh => by subst hh; exact hn.not_mem_erase hx
        omega
      rw [List.length_erase_of_mem hm] at h1
      omega
    · have h1 := nodup_le n l hn fun x hx => by
        have h2 := h x hx
        have h3 : x ≠ n := fun hh => hm (hh ▸ hx)
        omega
      omega

/-- A descriptor that is not decided has an object over which it does not lie. -/
def Unl (s : StoreD) (a : FrameD) (o : Int) : Prop := ∃ (k : Nat) (d : DescS) (i : Nat) (e : EntS), a.desc = k ∧ s.descs[k]? = some d ∧ d.status = 0 ∧ d.entries[i]? = some e ∧ e.object = o ∧ ¬ LiesOn s k o.toNat
theorem chain_up {s : StoreD} (hS : StoreP s) (hP : PreP s) {f : FrameD} {o : Int} (hu : Unl s f o) : ∀ (l : List FrameD) (a : FrameD), Chain s (a :: l) → ((a :: l).map (·.desc)).Nodup → (a :: l).getLast? = some f → ∃ o', Unl s a o' ∧ o' ≤ o
  | [], a, _, _, hl => by
    simp at hl
    subst hl
    exact ⟨o, hu, Int.le_refl _⟩
  | g :: l, a, hc, hn, hl => by
    obtain ⟨hw, hc⟩ := hc
    simp only [List.map_cons, List.nodup_cons] at hn
    obtain ⟨o', ⟨kg, dg, ig, eg, g1, g2, g3, g4, g5, g6⟩, hle⟩ := chain_up hS hP hu l g hc (by simp only [List.map_cons, List.nodup_cons]; exact hn.2) (by rw [← hl]; simp [List.getLast?_cons_cons])
    obtain ⟨_, _, ka, da, i, e, w1, w2, w3, w4, w5⟩ := hw
    have hlie := w5 kg dg g1 g2 g3
    have hfa := hS.2.2.2.1 da (List.mem_of_getElem? w2)
    have hfg := hS.2.2.2.1 dg (List.mem_of_getElem? g2)
    obtain ⟨oe, q1, q2⟩ := fits_obj hfa w4
    obtain ⟨og, q3, q4⟩ := fits_obj hfg g4
    obtain ⟨x, hx, hxd⟩ := hlie
    obtain ⟨i2, e2, p1, p2⟩ := head_in hS hx hxd g2
    have hlt : e.object < o' := by
      rcases Nat.lt_trichotomy i2 ig with c | c | c
      · have := sorted_lt2 hfg.1.1 c p1 g4
        omega
      · subst c
        rw [p1] at g4
        cases g4
        exact absurd ⟨x, by rw [← hx]; congr 1; omega, hxd⟩ g6
      · have := hP kg dg g2 g3 ig i2 eg e2 g4 p1 c ⟨x, by rw [← hx]; congr 1; omega, hxd⟩
        rw [g5] at this
        exact absurd this g6
    refine ⟨e.object, ⟨ka, da, i, e, w1, w2, w3, w4, rfl, fun hh => ?_⟩, by omega⟩
    obtain ⟨y, hy, hyd⟩ := hh
    rw [hx] at hy
    cases hy
    exact hn.1 (by simp; left; omega)
theorem chain_tail {s : StoreD} : ∀ {l1 l2 : List FrameD}, Chain s (l1 ++ l2) → Chain s l2
  | [], l2, h => h
  | [a], l2, h => by
    cases l2 with
    | nil => trivial
    | cons b l2 => exact h.2
  | a :: b :: l1, l2, h => chain_tail (l1 := b :: l1) h.2
theorem no_cycle {s : StoreD} {low : List FrameD} {f : FrameD} (hI : HInv s (low ++ [f])) {k : Nat} {d : DescS} {j : Nat} {e : EntS} {o : Nat} {h : HeadD} (ha : AtP s f k d j e o h) (hst : d.status = 0) (hm : 0 ≤ h.desc) (hne : h.desc ≠ f.desc) : h.desc ∉ (low ++ [f]).map (·.desc) := by
  intro hmem
  simp only [List.map_append, List.map_cons, List.map_nil, List.mem_append, List.mem_map, List.mem_cons, List.not_mem_nil, or_false] at hmem
  rcases hmem with ⟨b, hb, hbd⟩ | hmem
  · obtain ⟨l1, l2, rfl⟩ := List.append_of_mem hb
    have hc : Chain s (b :: (l2 ++ [f])) := chain_tail (l1 := l1) (by have := hI.chain; simpa using this)
    have hn : ((b :: (l2 ++ [f])).map (·.desc)).Nodup := by
      have := hI.nod
      simp only [List.append_assoc, List.cons_append, List.map_append] at this
      rw [List.nodup_append] at this
      simpa using this.2.1
    have hu : Unl s f o := ⟨k, d, j, e, ha.fk, ha.dk, hst, ha.ej, ha.eo, fun hh => by
      rw [Int.toNat_natCast, liesAt ha.ho] at hh
      have := ha.fk
      omega⟩
    obtain ⟨o', ⟨kb, db, ib, eb, b1, b2, b3, b4, b5, b6⟩, hle⟩ := chain_up hI.st hI.pre hu (l2 ++ [f]) b hc hn (by rw [show b :: (l2 ++ [f]) = (b :: l2) ++ [f] from rfl]; exact List.getLast?_concat ..)
    have hfb := hI.st.2.2.2.1 db (List.mem_of_getElem? b2)
    obtain ⟨i2, e2, p1, p2⟩ := head_in hI.st ha.ho (by omega : h.desc = kb) b2
    obtain ⟨ob, q1, q2⟩ := fits_obj hfb b4
    rcases Nat.lt_trichotomy ib i2 with c | c | c
    · have := hI.pre kb db b2 b3 ib i2 eb e2 b4 p1 c ⟨h, by rw [← ha.ho]; congr 1; omega, by omega⟩
      rw [b5] at this
      exact b6 this
    · subst c
      rw [b4] at p1
      cases p1
      exact b6 ⟨h, by rw [← ha.ho]; congr 1; omega, by omega⟩
    · have := sorted_lt2 hfb.1.1 c p1 b4
      omega
  · exact hne hmem

/-- What one step of a stack does. -/
structure HStep (s : StoreD) (fs : List FrameD) (r : StoreD × List FrameD) : Prop where
  inv : HInv r.1 r.2
  pot : potF r.1 r.2 < potF s fs
  hl : r.1.heads.length = s.heads.length
  dl : r.1.descs.length = s.descs.length
  ds : ∀ (k : Nat) (d : DescS), s.descs[k]? = some d → ∃ st : Int, r.1.descs[k]? = some ⟨d.owner, st, d.entries⟩ ∧ (d.status ≠ 0 → st = d.status)
  live : ∀ k : Nat, (k : Int) ∉ r.2.map (·.desc) → LiveP r.1 k → LiveP s k ∧ (k : Int) ∉ fs.map (·.desc)
  dec : ∀ (k : Nat) (d : DescS), (k : Int) ∈ fs.map (·.desc) → (k : Int) ∉ r.2.map (·.desc) → r.1.descs[k]? = some d → d.status ≠ 0

theorem frm_k {s : StoreD} {f : FrameD} (h : frmB s f = true) : 0 ≤ f.desc ∧ f.desc < s.descs.length := by
  unfold frmB at h
  simp only [Bool.and_eq_true] at h
  have := h.1.1
  simp [inB] at this
  omega
theorem bP_congr {p q : Prop} (h : p ↔ q) : bP p = bP q := by
  rcases Classical.em p with hp | hp
  · rw [bP_true hp, bP_true (h.1 hp)]
  · rw [bP_false hp, bP_false fun hq => hp (h.2 hq)]

theorem helpF_step {s : StoreD} {fs : List FrameD} (hI : HInv s fs) (hne : fs ≠ []) : HStep s fs (helpF s fs) := by
  rcases List.eq_nil_or_concat fs with rfl | ⟨low, f, rfl⟩
  · exact absurd rfl hne
  rw [List.concat_eq_append] at *
  have hS := hI.st
  have hfr : ∀ g ∈ low ++ [f], frmB s g = true := hI.frm
  have hf := hfr f (by simp)
  obtain ⟨hF, h5⟩ := hI.top f (List.getLast?_concat ..)
  have hd := dstep hS hf
  obtain ⟨hP', hF'⟩ := dstep_pre hS hf hI.pre hF
  obtain ⟨c1, c2, c3⟩ := dstep_cost hS hf h5
  obtain ⟨k, d, j, e, o, h, ha⟩ := at_ex hS hf
  have hlen : (low ++ [f]).length ≤ 60 := by
    have := nodup_le s.descs.length ((low ++ [f]).map (·.desc)) hI.nod fun x hx => by
      obtain ⟨g, hg, rfl⟩ := List.mem_map.1 hx
      exact frm_k (hfr g hg)
    have h2 := hS.2.2.1
    simp only [List.length_map] at this
    omega
  have hlow : ∀ g ∈ low, g.desc ≠ f.desc := fun g hg hh => by
    have := hI.nod
    simp only [List.map_append, List.map_cons, List.map_nil] at this
    rw [List.nodup_append] at this
    exact this.2.2 g.desc (List.mem_map.2 ⟨g, hg, rfl⟩) f.desc (by simp) hh
  have hpot : potF s (low ++ [f]) = 30 * liveN s (low ++ [f]) + 15 * low.length + cost s f := by
    unfold potF
    rw [List.getLast?_concat]
    simp
  rw [helpF_snoc]
  generalize hr : driveF s f = r at *
  obtain ⟨s', f', m⟩ := r
  simp only at *
  rcases hd.met with hm | ⟨hm, hs', hf', hp1, hml, hmn, k', d', j', e', o', h', ha', hmd⟩
  · simp only at hm
    subst hm
    rw [if_neg (by omega)]
    -- what the pairs say stays
    have hw : ∀ a b : FrameD, a ∈ low → (b ∈ low ∨ b = f) → Wants s a b → Wants s' a b := fun a b ha hb hw => by
      obtain ⟨w1, w2, ka, da, i, ea, w3, w4, w5, w6, w7⟩ := hw
      obtain ⟨st, q1, q2, q3⟩ := hd.ds ka da w4
      have hka := hlow a ha
      refine ⟨w1, w2, ka, ⟨da.owner, st, da.entries⟩, i, ea, w3, q1, by rw [q2 (by omega)]; exact w5, w6, fun kb db hb1 hb2 hb3 => ?_⟩
      obtain ⟨db0, hdb0⟩ : ∃ x, s.descs[kb]? = some x := ⟨_, List.getElem?_eq_getElem (by have := (List.getElem?_eq_some_iff.1 hb2).1; rw [← hd.dl]; exact this)⟩
      obtain ⟨st', r1, r2, r3⟩ := hd.ds kb db0 hdb0
      rw [hb2] at r1
      cases r1
      simp only at hb3
      have h0 : db0.status = 0 := by
        rcases Int.decEq db0.status 0 with c | c
        · have := r3 c; omega
        · exact c
      have hl := w7 kb db0 hb1 hdb0 h0
      by_cases hkb : (kb : Int) = f.desc
      · exact dstep_keep hd hF hkb.symm hdb0 h0 hl
      · exact (dstep_lies hd hkb).2 hl
    have hchain : Chain s' low := chain_mono (fun a b ha hb => hw a b ha (.inl hb)) (chain_init hI.chain)
    have hfrl : ∀ g ∈ low, frmB s' g = true := fun g hg => by
      have h1 := hfr g (by simp [hg])
      obtain ⟨kg, dg, jg, eg, og, hg', hag⟩ := at_ex hS h1
      obtain ⟨st, q1, q2, q3⟩ := hd.ds kg dg hag.dk
      unfold frmB at h1 ⊢
      rw [hag.fk, Int.toNat_natCast] at h1 ⊢
      rw [hag.dk] at h1
      rw [q1, hd.dl]
      exact h1
    have hlive : ∀ k : Nat, (k : Int) ≠ f.desc → (LiveP s' k ↔ LiveP s k) := fun k hk => by
      constructor
      · rintro ⟨o, ho⟩; exact ⟨o, (dstep_lies hd hk).1 ho⟩
      · rintro ⟨o, ho⟩; exact ⟨o, (dstep_lies hd hk).2 ho⟩
    have hnodl : (low.map (·.desc)).Nodup := by
      have := hI.nod
      simp only [List.map_append] at this
      rw [List.nodup_append] at this
      exact this.1
    by_cases hph : f'.phase = 5
    · rw [if_pos hph]
      obtain ⟨st, q1, q2, q3⟩ := hd.ds k d ha.dk
      have hk' : f'.desc = k := by rw [hd.desc]; exact ha.fk
      obtain ⟨t1, t2⟩ := hF'.p5 k _ hk' q1 hph
      have hdead : ¬ LiveP s' k := by
        rintro ⟨o, x, hx, hxd⟩
        obtain ⟨i, e, p1, p2⟩ := head_in hd.st hx hxd q1
        exact t2 i e p1 ⟨x, by rw [← hx]; congr 1; omega, hxd⟩
      have hliveN : liveN s' low = liveN s (low ++ [f]) := by
        unfold liveN
        rw [hd.dl]
        congr 1
        refine List.filter_congr fun y hy => bP_congr ?_
        simp only [List.map_append, List.map_cons, List.map_nil, List.mem_append, List.mem_cons, List.not_mem_nil, or_false, not_or]
        by_cases hy : (y : Int) = f.desc
        · have : y = k := by have := ha.fk; omega
          subst this
          constructor
          · intro hh; exact absurd hh.1 hdead
          · intro hh; exact absurd hy hh.2.2
        · rw [hlive y hy]
          constructor
          · intro hh; exact ⟨hh.1, hh.2, hy⟩
          · intro hh; exact ⟨hh.1, hh.2.1⟩
      refine ⟨⟨hd.st, hP', hchain, hnodl, hfrl, fun g hg => ?_⟩, ?_, hd.hl, hd.dl, fun k d hk => ?_, fun k' hk' hl => ?_, fun k' d' hk' hk2 hd' => ?_⟩
      · rcases List.eq_nil_or_concat low with rfl | ⟨l2, g2, rfl⟩
        · cases hg
        · rw [List.concat_eq_append] at *
          rw [List.getLast?_concat] at hg
          have hg := Option.some.inj hg
          subst hg
          have hc := hI.chain
          rw [List.append_assoc] at hc
          have hw := (chain_app (s := s) (l := l2) (f := g2) (g := f)).1 hc |>.2
          have e : g2 = ⟨g2.desc, 0, 0⟩ := by
            obtain ⟨w1, w2, _⟩ := hw
            cases g2
            simp_all
          refine ⟨?_, by rw [hw.1]; decide⟩
          rw [e]
          exact frP_zero (by omega) (by omega) (by omega) (by omega)
      · rw [hpot]
        unfold potF
        rcases List.eq_nil_or_concat low with rfl | ⟨l2, g2, rfl⟩
        · simp only [List.getLast?_nil]; omega
        · rw [List.concat_eq_append] at *
          rw [List.getLast?_concat, hliveN]
          simp only
          have hc : cost s' g2 ≤ 14 := by
            obtain ⟨kg, dg, jg, eg, og, hg', hag⟩ := at_ex hS (hfr g2 (by simp))
            obtain ⟨st, q1, q2, q3⟩ := hd.ds kg dg hag.dk
            rw [cost_at hag.fk q1]
            have := (hS.2.2.2.1 dg (List.mem_of_getElem? hag.dk)).1.2.2.2.2.2
            simp only
            split
            · omega
            split
            · omega
            split <;> omega
          simp only [List.length_append, List.length_cons, List.length_nil]
          omega
      · obtain ⟨st, q1, q2, q3⟩ := hd.ds k d hk
        exact ⟨st, q1, q3⟩
      · by_cases c : (k' : Int) = f.desc
        · have : k' = k := by have := ha.fk; omega
          subst this
          exact absurd hl hdead
        · refine ⟨(hlive k' c).1 hl, ?_⟩
          simp only [List.map_append, List.map_cons, List.map_nil, List.mem_append, List.mem_cons, List.not_mem_nil, or_false, not_or]
          exact ⟨hk', c⟩
      · simp only [List.map_append, List.map_cons, List.map_nil, List.mem_append, List.mem_cons, List.not_mem_nil, or_false] at hk'
        rcases hk' with hk' | hk'
        · exact absurd hk' hk2
        · have : k' = k := by have := ha.fk; omega
          subst this
          rw [q1] at hd'
          cases hd'
          exact t1
    · rw [if_neg hph]
      have hdd : f'.desc = f.desc := hd.desc
      have hmap : (low ++ [f']).map (·.desc) = (low ++ [f]).map (·.desc) := by simp [hdd]
      have hliveN : liveN s' (low ++ [f']) ≤ liveN s (low ++ [f]) := by
        unfold liveN
        rw [hd.dl, hmap]
        refine Nat.le_of_eq (congrArg _ (List.filter_congr fun y hy => bP_congr ?_))
        simp only [List.map_append, List.map_cons, List.map_nil, List.mem_append, List.mem_cons, List.not_mem_nil, or_false, not_or]
        by_cases hy : (y : Int) = f.desc
        · constructor <;> exact fun hh => absurd hy hh.2.2
        · rw [hlive y hy]
      refine ⟨⟨hd.st, hP', ?_, by rw [hmap]; exact hI.nod, fun g hg => ?_, fun g hg => ?_⟩, ?_, hd.hl, hd.dl, fun k d hk => ?_, fun k' hk' hl => ?_, fun k' d' hk' hk2 hd' => ?_⟩
      · rcases List.eq_nil_or_concat low with rfl | ⟨l2, g2, rfl⟩
        · trivial
        · rw [List.concat_eq_append] at *
          have hc := hI.chain
          rw [List.append_assoc] at hc ⊢
          have hw2 := (chain_app (s := s) (l := l2) (f := g2) (g := f)).1 hc |>.2
          refine (chain_app (s := s') (l := l2) (f := g2) (g := f')).2 ⟨hchain, ?_⟩
          obtain ⟨w1, w2, ka, da, i, ea, w3, w4, w5, w6, w7⟩ := hw g2 f (by simp) (.inr rfl) hw2
          exact ⟨w1, w2, ka, da, i, ea, w3, w4, w5, w6, fun kb db hb1 hb2 hb3 => w7 kb db (by rw [← hd.desc]; exact hb1) hb2 hb3⟩
      · simp only [List.mem_append, List.mem_cons, List.not_mem_nil, or_false] at hg
        rcases hg with hg | rfl
        · exact hfrl g hg
        · exact hd.fr
      · rw [List.getLast?_concat] at hg
        cases hg
        exact ⟨hF', hph⟩
      · rw [hpot]
        unfold potF
        rw [List.getLast?_concat]
        simp only [List.length_append, List.length_cons, List.length_nil]
        have := c2 rfl hph
        omega
      · obtain ⟨st, q1, q2, q3⟩ := hd.ds k d hk
        exact ⟨st, q1, q3⟩
      · simp only at hk'
        rw [hmap] at hk'
        have c : (k' : Int) ≠ f.desc := fun hh => hk' (by simp [hh])
        exact ⟨(hlive k' c).1 hl, hk'⟩
      · simp only at hk2
        rw [hmap] at hk2
        exact absurd hk' hk2
  · simp only at hm hs' hf' hml hmn hmd
    subst hs'
    rw [if_pos hm, if_neg (by have : (low ++ [f]).length = low.length + 1 := by simp
                              omega)]
    obtain ⟨hst, hlaid⟩ := hF.p1 k' d' ha'.fk ha'.dk hp1
    have hcyc := no_cycle hI ha' hst (by omega) (by omega)
    rw [hmd] at hcyc
    obtain ⟨km, hkm⟩ : ∃ km : Nat, m = km := ⟨m.toNat, by omega⟩
    obtain ⟨dm, hdm⟩ : ∃ dm, s'.descs[km]? = some dm := ⟨_, List.getElem?_eq_getElem (by omega)⟩
    have hfdm := hS.2.2.2.1 dm (List.mem_of_getElem? hdm)
    have hlow2 : ∀ g ∈ low, frmB s' g = true := fun g hg => hfr g (by simp [hg])
    subst hf'
    have hmap : (low ++ [(⟨f.desc, 0, 0⟩ : FrameD), ⟨m, 0, 0⟩]).map (·.desc) = (low ++ [f]).map (·.desc) ++ [m] := by simp
    refine ⟨⟨hS, hI.pre, ?_, ?_, fun g hg => ?_, fun g hg => ?_⟩, ?_, rfl, rfl, fun k d hk => ⟨d.status, hk, fun _ => rfl⟩, fun k2 hk2 hl => ?_, fun k2 d2 h1 h2 => ?_⟩
    · refine chain_app.2 ⟨?_, rfl, rfl, k', d', j', e', ha'.fk, ha'.dk, hst, ha'.ej, fun kb db hb1 hb2 hb3 => ⟨h', by rw [← ha'.ho]; congr 1; have := ha'.eo; omega, by simp only at hb1; omega⟩⟩
      rcases List.eq_nil_or_concat low with rfl | ⟨l2, g2, rfl⟩
      · trivial
      · rw [List.concat_eq_append] at *
        have hc := hI.chain
        rw [List.append_assoc] at hc
        obtain ⟨h1, h2⟩ := (chain_app (s := s') (l := l2) (f := g2) (g := f)).1 hc
        have := (chain_app (s := s') (l := l2) (f := g2) (g := ⟨f.desc, 0, 0⟩)).2 ⟨h1, h2⟩
        simpa using this
    · simp only
      rw [hmap, List.nodup_append]
      refine ⟨hI.nod, by simp, fun a ha b hb => ?_⟩
      simp only [List.mem_cons, List.not_mem_nil, or_false] at hb
      subst hb
      intro hh
      subst hh
      exact hcyc ha
    · simp only [List.mem_append, List.mem_cons, List.not_mem_nil, or_false] at hg
      rcases hg with hg | rfl | rfl
      · exact hlow2 g hg
      · exact hd.fr
      · rw [hkm]
        exact frm_zero hdm (by omega) (by omega) hfdm.1.2.2.2.2.1
    · have e1 : (low ++ [(⟨f.desc, 0, 0⟩ : FrameD), ⟨m, 0, 0⟩]) = (low ++ [(⟨f.desc, 0, 0⟩ : FrameD)]) ++ [⟨m, 0, 0⟩] := by simp
      simp only at hg
      rw [e1, List.getLast?_concat] at hg
      cases hg
      exact ⟨frP_zero (f := ⟨m, 0, 0⟩) (by omega) (by omega) (by omega) (by omega), by simp⟩
    · rw [hpot]
      have e1 : (low ++ [(⟨f.desc, 0, 0⟩ : FrameD), ⟨m, 0, 0⟩]) = (low ++ [(⟨f.desc, 0, 0⟩ : FrameD)]) ++ [⟨m, 0, 0⟩] := by simp
      have hl : liveN s' (low ++ [(⟨f.desc, 0, 0⟩ : FrameD), ⟨m, 0, 0⟩]) < liveN s' (low ++ [f]) := by
        unfold liveN
        rw [hmap]
        refine filter_lt (x := km) (fun y _ hy => ?_) (by simp only [List.mem_range]; omega) ?_ ?_
        · rw [bP_iff] at hy ⊢
          exact ⟨hy.1, fun hh => hy.2 (by simp only [List.mem_append]; exact .inl hh)⟩
        · rw [bP_iff]
          exact ⟨⟨o', h', ha'.ho, by omega⟩, by rw [← hkm]; exact hcyc⟩
        · exact bP_false fun hh => hh.2 (by simp [hkm])
      have hc : cost s' ⟨m, 0, 0⟩ ≤ 14 := by
        rw [cost_at (k := km) (d := dm) hkm hdm]
        have := hfdm.1.2.2.2.2.2
        simp
        omega
      unfold potF
      simp only
      rw [e1, List.getLast?_concat, ← e1]
      simp only [List.length_append, List.length_cons, List.length_nil]
      have := c3 hm
      omega
    · simp only at hk2
      rw [hmap] at hk2
      exact ⟨hl, fun hh => hk2 (by simp only [List.mem_append]; exact .inl hh)⟩
    · simp only at h2
      rw [hmap] at h2
      exact absurd (by simp only [List.mem_append]; exact .inl h1) h2
end Go.Proofs.Ytljhhhlobkoocaa

/- How deep a descriptor lies (plain). -/
namespace Go.Proofs.Ytljhhhlobkoocaa
open Go Go.RowKit
set_option linter.unusedVariables false
set_option linter.unusedSimpArgs false
set_option maxRecDepth 100000
set_option maxHeartbeats 4000000
attribute [local irreducible] VWP vops vdraw contV contD CallK Guard GuardV NextL Puts Runs RetOK RetQ RetO RetQO thenQ blockQ
theorem way_le {s : StoreD} (hS : StoreP s) {w : List Int} {f : Int} {r : Nat} (h : Way s w f r) : w.Nodup → (∀ x ∈ w, 0 ≤ x ∧ x < s.descs.length) → f < s.descs.length → w.length ≤ r ∧ r ≤ s.descs.length := by
  induction h with
  | stop w f hn =>
    intro h1 h2 _
    exact ⟨Nat.le_refl _, nodup_le _ w h1 h2⟩
  | step w f r h0 h1 h ih =>
    intro n1 n2 n3
    have h3 := ih (by
      rw [List.nodup_append]
      refine ⟨n1, by simp, fun a ha b hb hab => ?_⟩
      simp only [List.mem_cons, List.not_mem_nil, or_false] at hb
      subst hb
      subst hab
      unfold hasB at h1
      rw [List.any_eq_false] at h1
      exact h1 a ha (by simp)) (fun x hx => by
      simp only [List.mem_append, List.mem_cons, List.not_mem_nil, or_false] at hx
      rcases hx with hx | rfl
      · exact n2 x hx
      · exact ⟨h0, n3⟩) (nextD_lt hS _).2
    simp only [List.length_append, List.length_cons, List.length_nil] at h3
    omega
theorem depth_le {s : StoreD} (hS : StoreP s) {k : Nat} (hk : k < s.descs.length) {r : Nat} (h : DepthR s k r) : 1 ≤ r ∧ r ≤ s.descs.length := by
  unfold DepthR depthOk at h
  rw [if_pos (by rw [bP_true hS]; simp [inB]; omega)] at h
  have := (way_le hS (h.on (by omega) rfl) (by simp) (by simp; omega) (nextD_lt hS _).2)
  simpa using this
end Go.Proofs.Ytljhhhlobkoocaa
