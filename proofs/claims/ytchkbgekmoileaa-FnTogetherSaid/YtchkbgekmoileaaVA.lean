/- What descriptors that are done one at a time come to, as lists. -/
import Derived.Test.YtchkbgekmoileaaSI
import Derived.Test.YtchkbgekmoileaaNA
import Derived.Test.YtchkbgekmoileaaEc
namespace Go.Proofs.Ytchkbgekmoileaa
open Go Go.RowKit
set_option linter.unusedVariables false
set_option linter.unusedSimpArgs false
set_option maxRecDepth 100000
set_option maxHeartbeats 4000000
attribute [local irreducible] VWP vops vdraw contV contD CallK Guard GuardV NextL Puts Runs RetOK RetQ RetO RetQO thenQ blockQ

/-- All objects of a descriptor that fits are there. -/
theorem sorted_le2 {es : List EntS} (h : SortedP es) : ∀ (n i : Nat) (e f : EntS), es[i]? = some e → es[i + n]? = some f → e.object ≤ f.object
  | 0, i, e, f, he, hf => by
    rw [Nat.add_zero, he] at hf
    cases hf
    exact Int.le_refl _
  | n + 1, i, e, f, he, hf => by
    have hlt := (List.getElem?_eq_some_iff.1 hf).1
    obtain ⟨g, hg⟩ : ∃ g, es[i + n]? = some g := ⟨_, List.getElem?_eq_getElem (by omega)⟩
    have h1 := sorted_le2 h n i e g he hg
    have h2 := h (i + n) g f hg (by rw [Nat.add_assoc]; exact hf)
    omega
theorem sorted_lt2 {es : List EntS} (h : SortedP es) {i j : Nat} {e f : EntS} (hij : i < j) (he : es[i]? = some e) (hf : es[j]? = some f) : e.object < f.object := by
  have hlt := (List.getElem?_eq_some_iff.1 hf).1
  obtain ⟨g, hg⟩ : ∃ g, es[i + 1]? = some g := ⟨_, List.getElem?_eq_getElem (by omega)⟩
  have h1 := h i e g he hg
  have h2 := sorted_le2 h (j - (i + 1)) (i + 1) g f hg (by rw [show i + 1 + (j - (i + 1)) = j by omega]; exact hf)
  omega
theorem fits_obj {n : Nat} {d : DescS} (h : FitsP n d) {i : Nat} {e : EntS} (he : d.entries[i]? = some e) : ∃ k : Nat, e.object = k ∧ k < n := by
  obtain ⟨hD, hl⟩ := h
  have hlt := (List.getElem?_eq_some_iff.1 he).1
  obtain ⟨f, hf⟩ : ∃ f, d.entries[d.entries.length - 1]? = some f := ⟨_, List.getElem?_eq_getElem (by omega)⟩
  have h1 := hl f hf
  have h2 := sorted_le2 hD.1 (d.entries.length - 1 - i) i e f he (by rw [show i + (d.entries.length - 1 - i) = d.entries.length - 1 by omega]; exact hf)
  have h3 := hD.2.1 i e he
  simp only [EntS.ok, inB, Bool.and_eq_true, decide_eq_true_eq] at h3
  exact ⟨e.object.toNat, by omega, by omega⟩
/-- The value that entries give to an object. -/
def newVE (es : List EntS) (o x : Int) : Int := match es.find? (isAt o) with
  | some e => if e.write then e.new else x
  | none => x
def doE (es : List EntS) (out : List Int) : List Int := es.foldl (fun out e => if e.write then out.set e.object.toNat e.new else out) out
def putE (es : List EntS) (out : List Int) : List Int := out.mapIdx fun j x => newVE es j x
theorem doE_len (es : List EntS) : ∀ (out : List Int), (doE es out).length = out.length := by
  induction es with
  | nil => intro out; rfl
  | cons e es ih =>
    intro out
    show (doE es _).length = _
    rw [ih]
    show (if e.write = true then out.set e.object.toNat e.new else out).length = _
    split <;> simp
theorem putE_len (es : List EntS) (out : List Int) : (putE es out).length = out.length := by simp [putE]
theorem newVE_skip {e : EntS} {es : List EntS} {o x : Int} (h : e.object ≠ o) : newVE (e :: es) o x = newVE es o x := by
  simp [newVE, List.find?_cons, isAt, h]
theorem newVE_no {es : List EntS} {o x : Int} (h : ∀ e ∈ es, e.object ≠ o) : newVE es o x = x := by
  have : es.find? (isAt o) = none := List.find?_eq_none.2 fun e he => by simp [isAt, h e he]
  simp [newVE, this]
theorem doE_at : ∀ (es : List EntS) (out : List Int) (j : Nat) (x : Int), (es.Pairwise fun a b => a.object < b.object) → (∀ e ∈ es, 0 ≤ e.object) → out[j]? = some x → (doE es out)[j]? = some (newVE es j x)
  | [], out, j, x, _, _, hx => by simpa [doE, newVE] using hx
  | e :: es, out, j, x, hp, h0, hx => by
    show (doE es (if e.write then out.set e.object.toNat e.new else out))[j]? = _
    have hp' := List.pairwise_cons.1 hp
    have hlt := (List.getElem?_eq_some_iff.1 hx).1
    have he0 := h0 e (List.mem_cons_self ..)
    by_cases ho : e.object = j
    · have hno : ∀ y, newVE es j y = y := fun y => newVE_no fun f hf => by have := hp'.1 f hf; omega
      have hk : e.object.toNat = j := by omega
      have h1 : newVE (e :: es) j x = if e.write then e.new else x := by simp [newVE, List.find?_cons, isAt, ho]
      rw [h1, hk]
      cases hw : e.write with
      | true =>
        rw [doE_at es _ j e.new hp'.2 (fun f hf => h0 f (List.mem_cons_of_mem _ hf)) (by simp [hlt]), hno]
        rfl
      | false =>
        rw [doE_at es _ j x hp'.2 (fun f hf => h0 f (List.mem_cons_of_mem _ hf)) (by simpa using hx), hno]
        rfl
    · rw [newVE_skip ho]
      refine doE_at es _ j x hp'.2 (fun f hf => h0 f (List.mem_cons_of_mem _ hf)) ?_
      split
      · rw [List.getElem?_set_ne (by omega)]; exact hx
      · exact hx
theorem sorted_pair {es : List EntS} (h : SortedP es) : es.Pairwise fun a b => a.object < b.object := by
  rw [List.pairwise_iff_getElem]
  intro i j hi hj hij
  exact sorted_lt2 h hij (List.getElem?_eq_getElem hi) (List.getElem?_eq_getElem hj)
theorem doE_put {d : DescS} (h : DescP d) (out : List Int) : doE d.entries out = putE d.entries out := by
  refine List.ext_getElem? fun j => ?_
  rcases Nat.lt_or_ge j out.length with hj | hj
  · obtain ⟨x, hx⟩ : ∃ x, out[j]? = some x := ⟨_, List.getElem?_eq_getElem hj⟩
    rw [doE_at _ _ _ _ (sorted_pair h.1) (fun e he => ?_) hx]
    · simp [putE, hx]
    · obtain ⟨i, hi⟩ := List.getElem?_of_mem he
      have h3 := h.2.1 i e hi
      simp only [EntS.ok, inB, Bool.and_eq_true, decide_eq_true_eq] at h3
      omega
  · rw [List.getElem?_eq_none (by rw [doE_len]; omega), List.getElem?_eq_none (by rw [putE_len]; omega)]
/-- What a descriptor has read is there. -/
def canE (es : List EntS) (out : List Int) : Bool := es.all fun e => out[e.object.toNat]? == some e.old
def serialL : List Int → List DescS → List Int × Bool
  | out, [] => (out, true)
  | out, d :: ds => if canE d.entries out = true then serialL (putE d.entries out) ds else (out, false)
theorem serialL_len : ∀ (ds : List DescS) (out : List Int), (serialL out ds).1.length = out.length
  | [], out => rfl
  | d :: ds, out => by
    unfold serialL
    split
    · rw [serialL_len ds, putE_len]
    · rfl
def SerP (most : Nat) (xs : List Int) (ds : List DescS) : Prop := inB xs.length 1 8 = true ∧ allB xs (-1000000000) 1000000000 = true ∧ ds.length ≤ most ∧ ∀ d ∈ ds, FitsP xs.length d
noncomputable def serR (xs : List Int) (ds : List DescS) : List Int × Bool := if bP (SerP 60 xs ds) = true then serialL xs ds else ([], false)

theorem l1Copy_ok (es : List Int) (hl : es.length ≤ 1099511627776) : SatP Try.prog 74 [.fr 3 (rowsN es)] (.rf 0 es.length) [(3, rowsN es)] := by
  refine satP_of_body hT Try.func74 (by kernel_rfl) rfl (rs := [.tmp 2]) rfl (n := 6) rfl (by simp) rfl (by simpa using rowsN_pur es) fun E hE => ?_
  unfold St.init
  have F := And.intro @rowsN_len @rowsN_scal
  repeat' first
    | refine wSq fun _ hK => ?_
    | refine wRg ?_
    | refine wDr ?_
    | refine VWP_block ?_
    | refine VWP_skip ?_
    | refine VWP_exit ?_
    | refine VWP_ret ?_
    | (refine hK _ ?_; clear hK)
    | (clear hK; refine hK _ ?_; clear hK)
    | (clear hK; clear hK; refine hK _ ?_; clear hK)
    | (clear hK; clear hK; clear hK; refine hK _ ?_; clear hK)
    | (simp only [wHb, reduceCtorEq] at hb <;> try (exfalso; omega))
    | refine wCd (fun hb => ?_) fun hb => ?_
    | simp only [go_sem, Nat.reduceLT, Nat.reduceLeDiff, Nat.reduceEqDiff, Nat.reduceAdd, Nat.reduceMul, Nat.reduceSub, reduceCtorEq, F]
    | simp (disch := omega) only [decide_eq_true_eq, if_pos, if_neg, wrap_id, le_maxLen, and_true, true_and, if_true, ite_true]
    | refine wGd (fun hb => ?_) fun hb => ?_
  refine ret_rf (T := 1) (by simp only [go_sem, Nat.reduceLT, Nat.reduceLeDiff, Nat.reduceEqDiff, Nat.reduceAdd, Nat.reduceMul, Nat.reduceSub, reduceCtorEq]; try simp) (by simp only [go_sem, Nat.reduceLT, Nat.reduceLeDiff, Nat.reduceEqDiff, Nat.reduceAdd, Nat.reduceMul, Nat.reduceSub, reduceCtorEq]; try rfl) (rowsN_len es).symm (rowsN_pur es)
theorem own_ok (es : List Int) (hl : es.length ≤ 1099511627776) : SatP Try.prog 104 [.fr 3 (rowsN es)] (.rf 0 es.length) [(3, rowsN es)] := by
  refine satP_of_body hT Try.func104 (by kernel_rfl) rfl (rs := [.tmp 2]) rfl (n := 6) rfl (by simp) rfl (by simpa using rowsN_pur es) fun E hE => ?_
  unfold St.init
  have F := And.intro @rowsN_len @rowsN_scal
  repeat' first
    | refine wSq fun _ hK => ?_
    | refine wRg ?_
    | refine wDr ?_
    | refine VWP_block ?_
    | refine VWP_skip ?_
    | refine VWP_exit ?_
    | refine VWP_ret ?_
    | (refine hK _ ?_; clear hK)
    | (clear hK; refine hK _ ?_; clear hK)
    | (clear hK; clear hK; refine hK _ ?_; clear hK)
    | (clear hK; clear hK; clear hK; refine hK _ ?_; clear hK)
    | (simp only [wHb, reduceCtorEq] at hb <;> try (exfalso; omega))
    | refine wCd (fun hb => ?_) fun hb => ?_
    | simp only [go_sem, Nat.reduceLT, Nat.reduceLeDiff, Nat.reduceEqDiff, Nat.reduceAdd, Nat.reduceMul, Nat.reduceSub, reduceCtorEq, F]
    | simp (disch := omega) only [decide_eq_true_eq, if_pos, if_neg, wrap_id, le_maxLen, and_true, true_and, if_true, ite_true]
    | refine wGd (fun hb => ?_) fun hb => ?_
  refine ret_rf (T := 1) (by simp only [go_sem, Nat.reduceLT, Nat.reduceLeDiff, Nat.reduceEqDiff, Nat.reduceAdd, Nat.reduceMul, Nat.reduceSub, reduceCtorEq]; try simp) (by simp only [go_sem, Nat.reduceLT, Nat.reduceLeDiff, Nat.reduceEqDiff, Nat.reduceAdd, Nat.reduceMul, Nat.reduceSub, reduceCtorEq]; try rfl) (rowsN_len es).symm (rowsN_pur es)
theorem place_some {es : List EntS} {o : Int} {i : Nat} {e : EntS} (hp : placeE es o = i) (he : es[i]? = some e) (x : Int) : newVE es o x = if e.write then e.new else x := by
  unfold placeE firstI at hp
  split at hp
  · rename_i k hk
    have hki : k = i := by omega
    subst hki
    rw [List.findIdx?_eq_some_iff_getElem] at hk
    obtain ⟨h1, h2, h3⟩ := hk
    have hf : es.find? (isAt o) = some e := by
      rw [List.find?_eq_some_iff_getElem]
      rw [List.getElem?_eq_getElem h1] at he
      cases he
      exact ⟨h2, k, h1, rfl, fun j hj => by simpa using h3 j hj⟩
    simp [newVE, hf]
  · omega
theorem place_none {es : List EntS} {o : Int} (hp : placeE es o < 0) (x : Int) : newVE es o x = x := by
  unfold placeE firstI at hp
  split at hp
  · omega
  · rename_i hk
    refine newVE_no fun e he => ?_
    have := List.findIdx?_eq_none_iff.1 hk e he
    simpa [isAt] using this
theorem newValue_ok (d : DescS) (o x : Int) (hl : d.entries.length ≤ 1048576) : SatP Try.prog 105 [.agg (d.cells 70), .int .i64 o, .int .i64 x] (.int .i64 (newVE d.entries o x)) [] := by
  refine satP_of_body hT Try.func105 (by kernel_rfl) rfl (rs := [.tmp 6]) rfl (n := 29) rfl (by simp) rfl (by simp) fun E hE => ?_
  unfold St.init
  unfold DescS.cells
  rcases Int.lt_or_le (placeE d.entries o) 0 with hn | hn
  · have hnl : ¬ 0 ≤ placeE d.entries o := by omega
    have F := And.intro @rowsE_len hnl
    repeat' first
      | refine wSq fun _ hK => ?_
      | refine wRg ?_
      | refine wDr ?_
      | refine VWP_block ?_
      | refine VWP_skip ?_
      | refine VWP_exit ?_
      | refine VWP_ret ?_
      | (refine hK _ ?_; clear hK)
      | (clear hK; refine hK _ ?_; clear hK)
      | (clear hK; clear hK; refine hK _ ?_; clear hK)
      | (clear hK; clear hK; clear hK; refine hK _ ?_; clear hK)
      | (simp only [wHb, reduceCtorEq] at hb <;> try (exfalso; omega))
      | refine wCd (fun hb => ?_) fun hb => ?_
      | refine wCa (c := by first | exact entryAt_ok d.entries o hl) (k := ?_)
      | simp only [go_sem, Nat.reduceLT, Nat.reduceLeDiff, Nat.reduceEqDiff, Nat.reduceAdd, Nat.reduceMul, Nat.reduceSub, reduceCtorEq, F]
      | simp (disch := omega) only [decide_eq_true_eq, if_pos, if_neg, wrap_id, le_maxLen, and_true, true_and, if_true, ite_true]
      | refine wGd (fun hb => ?_) fun hb => ?_
    refine wLf ?_
    rw [place_none hn]
  · obtain ⟨k, hk⟩ : ∃ k : Nat, placeE d.entries o = k := ⟨(placeE d.entries o).toNat, by omega⟩
    have hkl : k < d.entries.length := by
      unfold placeE firstI at hk
      split at hk
      · rename_i i hi
        rw [List.findIdx?_eq_some_iff_getElem] at hi
        obtain ⟨h1, _⟩ := hi
        omega
      · omega
    obtain ⟨e, he⟩ : ∃ e, d.entries[k]? = some e := ⟨_, List.getElem?_eq_getElem hkl⟩
    have hre := rowsE_at he
    have hk0 : (0 : Int) ≤ (k : Nat) := by omega
    rw [place_some hk he]
    have hc := entryAt_ok d.entries o hl
    rw [hk] at hc
    cases hw : e.write
    all_goals
      simp only [EntS.enc, hw] at hre
      have F := And.intro @rowsE_len (And.intro hre (And.intro hk0 hkl))
      repeat' first
        | refine wSq fun _ hK => ?_
        | refine wRg ?_
        | refine wDr ?_
        | refine VWP_block ?_
        | refine VWP_skip ?_
        | refine VWP_exit ?_
        | refine VWP_ret ?_
        | (refine hK _ ?_; clear hK)
        | (clear hK; refine hK _ ?_; clear hK)
        | (clear hK; clear hK; refine hK _ ?_; clear hK)
        | (clear hK; clear hK; clear hK; refine hK _ ?_; clear hK)
        | (simp only [wHb, reduceCtorEq] at hb <;> try (exfalso; omega))
        | refine wCd (fun hb => ?_) fun hb => ?_
        | refine wCa (c := by first | exact hc) (k := ?_)
        | simp only [go_sem, Nat.reduceLT, Nat.reduceLeDiff, Nat.reduceEqDiff, Nat.reduceAdd, Nat.reduceMul, Nat.reduceSub, reduceCtorEq, F]
        | simp (disch := omega) only [decide_eq_true_eq, if_pos, if_neg, wrap_id, le_maxLen, and_true, true_and, if_true, ite_true]
        | refine wGd (fun hb => ?_) fun hb => ?_
      refine wLf ?_
      first | rfl | simp
end Go.Proofs.Ytchkbgekmoileaa
