/- The cursor of a draw: its bytes, a number below another one. -/
import Derived.Test.YtchkbgekmoileaaDA
import Derived.Test.YtchkbgekmoileaaEf
namespace Go.Proofs.Ytchkbgekmoileaa
open Go Go.RowKit
set_option linter.unusedVariables false
set_option linter.unusedSimpArgs false
set_option maxRecDepth 100000
set_option maxHeartbeats 4000000
attribute [local irreducible] VWP vops vdraw contV contD CallK Guard GuardV NextL Puts Runs RetOK RetQ RetO RetQO thenQ blockQ
attribute [local irreducible] NextT RetI SemRun

def encY (b : Int) : List PT := [.int .u8 b]
def rowsY (bs : List Int) : List (List PT) := bs.map encY
theorem rowsY_len (bs : List Int) : (rowsY bs).length = bs.length := by simp [rowsY]
theorem rowsY_at {bs : List Int} {i : Nat} {b : Int} (h : bs[i]? = some b) : (rowsY bs)[i]? = some [.int .u8 b] := by simp [rowsY, h, encY]
def andV (a b : Int) : Int := IntKind.i64.wrap ((BitVec.ofInt IntKind.i64.bits a &&& BitVec.ofInt IntKind.i64.bits b).toNat)
def xorV (a b : Int) : Int := IntKind.i64.wrap ((BitVec.ofInt IntKind.i64.bits a ^^^ BitVec.ofInt IntKind.i64.bits b).toNat)
theorem andV_255 (a : Int) : 0 ≤ andV a 255 ∧ andV a 255 ≤ 255 := by
  unfold andV
  have h : (BitVec.ofInt IntKind.i64.bits a &&& BitVec.ofInt IntKind.i64.bits 255).toNat ≤ 255 := by
    rw [BitVec.toNat_and]
    exact Nat.le_trans Nat.and_le_right (by decide)
  rw [wrap_id (by omega)]
  omega

def hStep (h b : Int) : Int := andV (IntKind.i64.wrap (IntKind.i64.wrap (IntKind.i64.wrap (h * 131) + IntKind.i64.wrap b) + 7)) 1073741823
def hashN (bs : List Int) : Nat → Int
  | 0 => 87087 + (bs.length : Int)
  | i + 1 => hStep (hashN bs i) ((bs[i]?).getD 0)
/-- A cursor: how many bytes were taken, and the number that follows from them. -/
structure Cur where
  i : Int
  h : Int
def curE (bs : List Int) (c : Cur) : Ent := .box [.fr 5 (rowsY bs), .int .i64 c.i, .int .i64 c.h]
def newCur (bs : List Int) : Cur := ⟨0, hashN bs (min bs.length 4000)⟩

theorem l1New_sem (bs : List Int) (hl : bs.length ≤ 1048576) (H : Heap) (nx : Nat) (hlow : ∀ T, T < nx → (H T).live = true) :
    SemRun Try.prog 23 [.fr 5 (rowsY bs)] H nx (updH nx (curE bs (newCur bs)) H) 1 (.bp nx 0) := by
  refine wEs Try.func23 2 32 hlow fun E => ?_
  have F := @rowsY_len
  repeat' first
    | refine wSq fun _ hK => ?_
    | refine wRg ?_
    | refine wDr ?_
    | refine VWP_block ?_
    | refine VWP_skip ?_
    | refine VWP_exit ?_
    | refine VWP_ret ?_
    | (refine hK _ ?_; clear hK)
    | (clear hK; refine hK _ ?_; clear hK)
    | (clear hK; clear hK; refine hK _ ?_; clear hK)
    | (clear hK; clear hK; clear hK; refine hK _ ?_; clear hK)
    | (simp only [wHb, reduceCtorEq] at hb <;> try (exfalso; omega))
    | refine wCd (fun hb => ?_) fun hb => ?_
    | simp only [go_sem, Nat.reduceLT, Nat.reduceLeDiff, Nat.reduceEqDiff, Nat.reduceAdd, Nat.reduceMul, Nat.reduceSub, reduceCtorEq, F]
    | simp (disch := omega) only [decide_eq_true_eq, if_pos, if_neg, wrap_id, le_maxLen, and_true, true_and, if_true, ite_true]
    | refine wGd (fun hb => ?_) fun hb => ?_
  refine VWP_loopT (X := Nat) (fun i => [(0, .fr 5 (rowsY bs)), (3, .int .i64 (hashN bs i)), (4, .int .i64 i)]) (fun i => bs.length - i) (fun i => i ≤ bs.length ∧ i ≤ 4000) 0 ⟨Nat.zero_le _, Nat.zero_le _⟩ (by simp [updV, hashN]) ?_
  rintro i ⟨h1, h2⟩
  have hi0 : (0 : Int) ≤ (i : Nat) := by omega
  rcases Nat.lt_or_ge i bs.length with hlt | hge
  · rcases Nat.lt_or_ge i 4000 with h4 | h4
    · obtain ⟨b, hby⟩ : ∃ b, bs[i]? = some b := ⟨_, List.getElem?_eq_getElem hlt⟩
      have hrb := rowsY_at hby
      have hlt2 : (i : Int) < (bs.length : Int) := by omega
      have h42 : (i : Int) < 4000 := by omega
      have hw := wrap_id (x := (i : Int) + 1) (by omega)
      have F := And.intro @rowsY_len (And.intro hrb (And.intro hlt (And.intro hi0 (And.intro hlt2 h42))))
      repeat' first
        | refine wSq fun _ hK => ?_
        | refine wRg ?_
        | refine wDr ?_
        | refine VWP_block ?_
        | refine VWP_skip ?_
        | refine VWP_exit ?_
        | refine VWP_ret ?_
        | (refine hK _ ?_; clear hK)
        | (clear hK; refine hK _ ?_; clear hK)
        | (clear hK; clear hK; refine hK _ ?_; clear hK)
        | (clear hK; clear hK; clear hK; refine hK _ ?_; clear hK)
        | (simp only [wHb, reduceCtorEq] at hb <;> try (exfalso; omega))
        | refine wCd (fun hb => ?_) fun hb => ?_
        | simp only [go_sem, Nat.reduceLT, Nat.reduceLeDiff, Nat.reduceEqDiff, Nat.reduceAdd, Nat.reduceMul, Nat.reduceSub, reduceCtorEq, F]
        | simp (disch := omega) only [decide_eq_true_eq, if_pos, if_neg, wrap_id, le_maxLen, and_true, true_and, if_true, ite_true]
        | refine wGd (fun hb => ?_) fun hb => ?_
      all_goals refine nextT (i + 1) ⟨by omega, by omega⟩ (by omega) (by simp only [List.mem_cons, List.not_mem_nil, or_false, forall_eq_or_imp, forall_eq, go_sem, Nat.reduceLT, Nat.reduceLeDiff, Nat.reduceEqDiff, Nat.reduceAdd, Nat.reduceMul, Nat.reduceSub, reduceCtorEq,  tmL, hashN, hby, hStep, andV, Option.getD_some, hw]; first | done | exact ⟨rfl, rfl, rfl⟩ | exact ⟨rfl, rfl⟩ | rfl)
    · have hn : ¬ (i : Int) < 4000 := by omega
      have hlt2 : (i : Int) < (bs.length : Int) := by omega
      have he : min bs.length 4000 = i := by omega
      have F := And.intro @rowsY_len (And.intro hn hlt2)
      repeat' first
        | refine wSq fun _ hK => ?_
        | refine wRg ?_
        | refine wDr ?_
        | refine VWP_block ?_
        | refine VWP_skip ?_
        | refine VWP_exit ?_
        | refine VWP_ret ?_
        | (refine hK _ ?_; clear hK)
        | (clear hK; refine hK _ ?_; clear hK)
        | (clear hK; clear hK; refine hK _ ?_; clear hK)
        | (clear hK; clear hK; clear hK; refine hK _ ?_; clear hK)
        | (simp only [wHb, reduceCtorEq] at hb <;> try (exfalso; omega))
        | refine wCd (fun hb => ?_) fun hb => ?_
        | simp only [go_sem, Nat.reduceLT, Nat.reduceLeDiff, Nat.reduceEqDiff, Nat.reduceAdd, Nat.reduceMul, Nat.reduceSub, reduceCtorEq, F]
        | simp (disch := omega) only [decide_eq_true_eq, if_pos, if_neg, wrap_id, le_maxLen, and_true, true_and, if_true, ite_true]
        | refine wGd (fun hb => ?_) fun hb => ?_
      all_goals exact retI_mk (by simp only [go_sem, Nat.reduceLT, Nat.reduceLeDiff, Nat.reduceEqDiff, Nat.reduceAdd, Nat.reduceMul, Nat.reduceSub, reduceCtorEq] <;> try rfl) (by simp only [curE, newCur, he]) (Nat.le_refl _)
  · have hn : ¬ (i : Int) < (bs.length : Int) := by omega
    have he : min bs.length 4000 = i := by omega
    have F := And.intro @rowsY_len hn
    repeat' first
      | refine wSq fun _ hK => ?_
      | refine wRg ?_
      | refine wDr ?_
      | refine VWP_block ?_
      | refine VWP_skip ?_
      | refine VWP_exit ?_
      | refine VWP_ret ?_
      | (refine hK _ ?_; clear hK)
      | (clear hK; refine hK _ ?_; clear hK)
      | (clear hK; clear hK; refine hK _ ?_; clear hK)
      | (clear hK; clear hK; clear hK; refine hK _ ?_; clear hK)
      | (simp only [wHb, reduceCtorEq] at hb <;> try (exfalso; omega))
      | refine wCd (fun hb => ?_) fun hb => ?_
      | simp only [go_sem, Nat.reduceLT, Nat.reduceLeDiff, Nat.reduceEqDiff, Nat.reduceAdd, Nat.reduceMul, Nat.reduceSub, reduceCtorEq, F]
      | simp (disch := omega) only [decide_eq_true_eq, if_pos, if_neg, wrap_id, le_maxLen, and_true, true_and, if_true, ite_true]
      | refine wGd (fun hb => ?_) fun hb => ?_
    all_goals exact retI_mk (by simp only [go_sem, Nat.reduceLT, Nat.reduceLeDiff, Nat.reduceEqDiff, Nat.reduceAdd, Nat.reduceMul, Nat.reduceSub, reduceCtorEq] <;> try rfl) (by simp only [curE, newCur, he]) (Nat.le_refl _)

/-! ### A byte, a number below another one -/
def nextH (h : Int) : Int := IntKind.i64.wrap (IntKind.i64.wrap (h * 6364136223846793005) + 1442695040888963407)
def mixV (h : Int) : Int := andV (xorV (h.fdiv (2 ^ (min (33 : Int).toNat IntKind.i64.bits))) (h.fdiv (2 ^ (min (45 : Int).toNat IntKind.i64.bits)))) 255
noncomputable def byteF (bs : List Int) (c : Cur) : Int × Cur := if c.i < (bs.length : Int) then (andV (IntKind.i64.wrap (mixV (nextH c.h) + IntKind.i64.wrap ((bs[c.i.toNat]?).getD 0))) 255, ⟨c.i + 1, nextH c.h⟩) else (mixV (nextH c.h), ⟨c.i, nextH c.h⟩)
def CurOk (bs : List Int) (c : Cur) : Prop := 0 ≤ c.i ∧ c.i ≤ bs.length
theorem byteF_ok {bs : List Int} {c : Cur} (h : CurOk bs c) : CurOk bs (byteF bs c).2 ∧ 0 ≤ (byteF bs c).1 ∧ (byteF bs c).1 ≤ 255 := by
  unfold byteF
  split
  · exact ⟨⟨by have := h.1; simp only; omega, by simp only; omega⟩, andV_255 _⟩
  · exact ⟨h, andV_255 _⟩
theorem l1Byte_ok (bs : List Int) (c : Cur) (hl : bs.length ≤ 1048576) (hc : CurOk bs c) (r : Int × Cur) (hr : byteF bs c = r) : SatV Try.prog 80 [.bp 0 0] [curE bs c] (.int .i64 r.1) [curE bs r.2] := by
  obtain ⟨c1, c2⟩ := hc
  refine wEv Try.func80 [.tmp 2] 58 1 (by simp [keptLV, keptOkF, outF, outE, isFr, newOk, curE]) fun E hE => ?_
  by_cases hlt : c.i < (bs.length : Int)
  · obtain ⟨i, hi⟩ : ∃ i : Nat, c.i = i := ⟨c.i.toNat, by omega⟩
    have hil : i < bs.length := by omega
    obtain ⟨b, hby⟩ : ∃ b, bs[i]? = some b := ⟨_, List.getElem?_eq_getElem hil⟩
    have hrb := rowsY_at hby
    have hi0 : (0 : Int) ≤ (i : Nat) := by omega
    have hlt2 : (i : Int) < (bs.length : Int) := by omega
    have hw := wrap_id (x := (i : Int) + 1) (by omega)
    unfold byteF at hr
    rw [if_pos hlt] at hr
    subst hr
    rw [hi, Int.toNat_natCast, hby]
    unfold curE
    rw [hi]
    have F := And.intro @rowsY_len (And.intro hrb (And.intro hil (And.intro hi0 (And.intro hlt2 (And.intro hw @Nat.le_refl)))))
    repeat' first
      | refine wSq fun _ hK => ?_
      | refine wRg ?_
      | refine wDr ?_
      | refine VWP_block ?_
      | refine VWP_skip ?_
      | refine VWP_exit ?_
      | refine VWP_ret ?_
      | (refine hK _ ?_; clear hK)
      | (clear hK; refine hK _ ?_; clear hK)
      | (clear hK; clear hK; refine hK _ ?_; clear hK)
      | (clear hK; clear hK; clear hK; refine hK _ ?_; clear hK)
      | (simp only [wHb, reduceCtorEq] at hb <;> try (exfalso; omega))
      | refine wCd (fun hb => ?_) fun hb => ?_
      | simp only [go_sem, Nat.reduceLT, Nat.reduceLeDiff, Nat.reduceEqDiff, Nat.reduceAdd, Nat.reduceMul, Nat.reduceSub, reduceCtorEq, F]
      | simp (disch := omega) only [decide_eq_true_eq, if_pos, if_neg, wrap_id, le_maxLen, and_true, true_and, if_true, ite_true]
      | refine wGd (fun hb => ?_) fun hb => ?_
    all_goals refine wRo [] [_]
  · unfold byteF at hr
    rw [if_neg hlt] at hr
    subst hr
    unfold curE
    have F := And.intro @rowsY_len (And.intro hlt @Nat.le_refl)
    repeat' first
      | refine wSq fun _ hK => ?_
      | refine wRg ?_
      | refine wDr ?_
      | refine VWP_block ?_
      | refine VWP_skip ?_
      | refine VWP_exit ?_
      | refine VWP_ret ?_
      | (refine hK _ ?_; clear hK)
      | (clear hK; refine hK _ ?_; clear hK)
      | (clear hK; clear hK; refine hK _ ?_; clear hK)
      | (clear hK; clear hK; clear hK; refine hK _ ?_; clear hK)
      | (simp only [wHb, reduceCtorEq] at hb <;> try (exfalso; omega))
      | refine wCd (fun hb => ?_) fun hb => ?_
      | simp only [go_sem, Nat.reduceLT, Nat.reduceLeDiff, Nat.reduceEqDiff, Nat.reduceAdd, Nat.reduceMul, Nat.reduceSub, reduceCtorEq, F]
      | simp (disch := omega) only [decide_eq_true_eq, if_pos, if_neg, wrap_id, le_maxLen, and_true, true_and, if_true, ite_true]
      | refine wGd (fun hb => ?_) fun hb => ?_
    all_goals refine wRo [] [_]

/-- What is drawn below a number that is not great. -/
noncomputable def belowF (bs : List Int) (c : Cur) (n : Int) : Int × Cur := ((byteF bs c).1.tmod n, (byteF bs c).2)
theorem belowF_ok {bs : List Int} {c : Cur} (h : CurOk bs c) {n : Int} (hn : 0 < n) : CurOk bs (belowF bs c n).2 ∧ 0 ≤ (belowF bs c n).1 ∧ (belowF bs c n).1 < n := by
  obtain ⟨h1, h2, h3⟩ := byteF_ok h
  exact ⟨h1, Int.tmod_nonneg _ h2, Int.tmod_lt_of_pos _ hn⟩
theorem byteF_range (bs : List Int) (c : Cur) : 0 ≤ (byteF bs c).1 ∧ (byteF bs c).1 ≤ 255 := by
  unfold byteF
  split <;> exact andV_255 _
theorem belowF_range (bs : List Int) (c : Cur) (n : Int) (hn : 0 < n) : 0 ≤ (belowF bs c n).1 ∧ (belowF bs c n).1 < n :=
  ⟨Int.tmod_nonneg _ (byteF_range bs c).1, Int.tmod_lt_of_pos _ hn⟩
theorem l1Below_ok (bs : List Int) (c : Cur) (n : Int) (hl : bs.length ≤ 1048576) (hc : CurOk bs c) (h0 : 0 < n) (h1 : n ≤ 256) (r : Int × Cur) (hr : belowF bs c n = r) : SatV Try.prog 50 [.bp 0 0, .int .i64 n] [curE bs c] (.int .i64 r.1) [curE bs r.2] := by
  have hb1 := l1Byte_ok bs c hl hc _ rfl
  refine wEv Try.func50 [.tmp 4] 37 1 (by simp [keptLV, keptOkF, outF, outE, isFr, newOk, curE]) fun E hE => ?_
  unfold belowF at hr
  subst hr
  have hn0 : ¬ n ≤ 0 := by omega
  have hn1 : ¬ n = 0 := by omega
  unfold curE at *
  have F := And.intro hn0 (And.intro hn1 h1)
  repeat' first
    | refine wSq fun _ hK => ?_
    | refine wRg ?_
    | refine wDr ?_
    | refine VWP_block ?_
    | refine VWP_skip ?_
    | refine VWP_exit ?_
    | refine VWP_ret ?_
    | (refine hK _ ?_; clear hK)
    | (clear hK; refine hK _ ?_; clear hK)
    | (clear hK; clear hK; refine hK _ ?_; clear hK)
    | (clear hK; clear hK; clear hK; refine hK _ ?_; clear hK)
    | (simp only [wHb, reduceCtorEq] at hb <;> try (exfalso; omega))
    | refine wCd (fun hb => ?_) fun hb => ?_
    | refine wOv [0] (hb1) ?_
    | simp only [go_sem, Nat.reduceLT, Nat.reduceLeDiff, Nat.reduceEqDiff, Nat.reduceAdd, Nat.reduceMul, Nat.reduceSub, reduceCtorEq, F]
    | simp (disch := omega) only [decide_eq_true_eq, if_pos, if_neg, wrap_id, le_maxLen, and_true, true_and, if_true, ite_true]
    | refine wGd (fun hb => ?_) fun hb => ?_
  all_goals refine wRo [] [_]
theorem l1Once_ok (bs : List Int) (c : Cur) (n : Int) (hl : bs.length ≤ 1048576) (hc : CurOk bs c) (h0 : 0 < n) (h1 : n ≤ 256) (r : Int × Cur) (hr : belowF bs c n = r) : SatV Try.prog 52 [.bp 0 0, .int .i64 n] [curE bs c] (.bool (r.1 == 0)) [curE bs r.2] := by
  have hb1 := l1Below_ok bs c n hl hc h0 h1 r hr
  refine wEv Try.func52 [.tmp 4] 9 1 (by simp [keptLV, keptOkF, outF, outE, isFr, newOk, curE]) fun E hE => ?_
  unfold curE at *
  have F := h1
  repeat' first
    | refine wSq fun _ hK => ?_
    | refine wRg ?_
    | refine wDr ?_
    | refine VWP_block ?_
    | refine VWP_skip ?_
    | refine VWP_exit ?_
    | refine VWP_ret ?_
    | (refine hK _ ?_; clear hK)
    | (clear hK; refine hK _ ?_; clear hK)
    | (clear hK; clear hK; refine hK _ ?_; clear hK)
    | (clear hK; clear hK; clear hK; refine hK _ ?_; clear hK)
    | (simp only [wHb, reduceCtorEq] at hb <;> try (exfalso; omega))
    | refine wCd (fun hb => ?_) fun hb => ?_
    | refine wOv [0] (hb1) ?_
    | simp only [go_sem, Nat.reduceLT, Nat.reduceLeDiff, Nat.reduceEqDiff, Nat.reduceAdd, Nat.reduceMul, Nat.reduceSub, reduceCtorEq, F]
    | simp (disch := omega) only [decide_eq_true_eq, if_pos, if_neg, wrap_id, le_maxLen, and_true, true_and, if_true, ite_true]
    | refine wGd (fun hb => ?_) fun hb => ?_
  all_goals refine wRo [] [_]
end Go.Proofs.Ytchkbgekmoileaa
