/- What a law over bytes begins with: the drawn store, a byte of the code, whether there are too many. -/
import Derived.Test.YtchkbgekmoileaaCB
namespace Go.Proofs.Ytchkbgekmoileaa
open Go Go.RowKit
set_option linter.unusedVariables false
set_option linter.unusedSimpArgs false
set_option maxRecDepth 100000
set_option maxHeartbeats 4000000
attribute [local irreducible] VWP vops vdraw contV contD CallK Guard GuardV NextL Puts Runs RetOK RetQ RetO RetQO thenQ blockQ

noncomputable def drawS (bs : List Int) : StoreD := (storeF (belowF bs) (newCur bs)).1
theorem newCur_ok (bs : List Int) : CurOk bs (newCur bs) := ⟨Int.le_refl _, by show (0 : Int) ≤ _; omega⟩
theorem l1New_one (bs : List Int) (hl : bs.length ≤ 1048576) (cs : List VV) : SemRun Try.prog 23 [.fr 5 (rowsY bs)] (updH 0 (.box cs) fun _ => .dead) 1 (updH 1 (curE bs (newCur bs)) (updH 0 (.box cs) fun _ => .dead)) 1 (.bp 1 0) :=
  l1New_sem bs hl _ _ fun T hT => by
    have h0 : T = 0 := by omega
    subst h0
    rfl
theorem drawStore_ok (bs : List Int) (hl : bs.length ≤ 1048576) :
    SatP Try.prog 6 [.fr 5 (rowsY bs)] (.agg [.rf 0 (drawS bs).heads.length, .rf 1 (drawS bs).descs.length]) [(36, rowsH (drawS bs).heads), (40, rowsD 70 (drawS bs).descs)] := by
  have hd := l7Draw_ok bs (newCur bs) hl (newCur_ok bs) _ rfl
  have hs : (storeF (belowF bs) (newCur bs)).1 = drawS bs := rfl
  rw [hs] at hd
  refine satP_of_body hT Try.func6 (by kernel_rfl) rfl (rs := [.cell 2 27]) rfl (n := 6) rfl (by simp) rfl (by simp [rowsH_pur, rowsD_pur]) fun E hE => ?_
  unfold St.init
  unfold curE at hd
  have hn := l1New_one bs hl
  unfold curE at hn
  have F := And.intro @rowsH_len (And.intro @rowsD_len (And.intro @rowsH_take @rowsD_take))
  repeat' first
    | refine wSq fun _ hK => ?_
    | refine wRg ?_
    | refine wDr ?_
    | refine VWP_block ?_
    | refine VWP_skip ?_
    | refine VWP_exit ?_
    | refine VWP_ret ?_
    | (refine hK _ ?_; clear hK)
    | (clear hK; refine hK _ ?_; clear hK)
    | (clear hK; clear hK; refine hK _ ?_; clear hK)
    | (clear hK; clear hK; clear hK; refine hK _ ?_; clear hK)
    | (simp only [wHb, reduceCtorEq] at hb <;> try (exfalso; omega))
    | refine wCd (fun hb => ?_) fun hb => ?_
    | refine wOv [1] (hd) ?_
    | refine wSm (hn _) ?_
    | simp only [go_sem, Nat.reduceLT, Nat.reduceLeDiff, Nat.reduceEqDiff, Nat.reduceAdd, Nat.reduceMul, Nat.reduceSub, reduceCtorEq, F]
    | simp (disch := omega) only [decide_eq_true_eq, if_pos, if_neg, wrap_id, le_maxLen, and_true, true_and, if_true, ite_true]
    | refine wGd (fun hb => ?_) fun hb => ?_
  all_goals refine ret_mk (vs := _) (acc := _) (by simp only [go_sem, Nat.reduceLT, Nat.reduceLeDiff, Nat.reduceEqDiff, Nat.reduceAdd, Nat.reduceMul, Nat.reduceSub, reduceCtorEq, vres]; rfl) (by simp only [go_sem, Nat.reduceLT, Nat.reduceLeDiff, Nat.reduceEqDiff, Nat.reduceAdd, Nat.reduceMul, Nat.reduceSub, reduceCtorEq, rowsH_len, rowsD_len, rowsH_take, rowsD_take, wrap, exV, exA, exCs, exC, Nat.le_refl]; rfl) (by simp) (by simp [rowsH_take, rowsD_take]) (by simp [rowsH_pur, rowsD_pur])
theorem big_ok (bs : List Int) : SatP Try.prog 5 [.fr 5 (rowsY bs)] (.bool (decide ((1048576 : Int) < bs.length))) [] := by
  refine satP_of_body hT Try.func5 (by kernel_rfl) rfl (rs := [.tmp 2]) rfl (n := 6) rfl (by simp) rfl (by simp) fun E hE => ?_
  unfold St.init
  have F := @rowsY_len
  repeat' first
    | refine wSq fun _ hK => ?_
    | refine wRg ?_
    | refine wDr ?_
    | refine VWP_block ?_
    | refine VWP_skip ?_
    | refine VWP_exit ?_
    | refine VWP_ret ?_
    | (refine hK _ ?_; clear hK)
    | (clear hK; refine hK _ ?_; clear hK)
    | (clear hK; clear hK; refine hK _ ?_; clear hK)
    | (clear hK; clear hK; clear hK; refine hK _ ?_; clear hK)
    | (simp only [wHb, reduceCtorEq] at hb <;> try (exfalso; omega))
    | refine wCd (fun hb => ?_) fun hb => ?_
    | simp only [go_sem, Nat.reduceLT, Nat.reduceLeDiff, Nat.reduceEqDiff, Nat.reduceAdd, Nat.reduceMul, Nat.reduceSub, reduceCtorEq, F]
    | simp (disch := omega) only [decide_eq_true_eq, if_pos, if_neg, wrap_id, le_maxLen, and_true, true_and, if_true, ite_true]
    | refine wGd (fun hb => ?_) fun hb => ?_
  all_goals refine wLf ?_
  all_goals rfl
def ByteP (bs : List Int) : Prop := ∀ b ∈ bs, 0 ≤ b ∧ b ≤ 255
def atF (bs : List Int) (i : Nat) : Int := match bs[i]? with
  | some b => b
  | none => ((i : Int) * 7 + bs.length).tmod 256
theorem atF_ok {bs : List Int} (hb : ByteP bs) (i : Nat) : 0 ≤ atF bs i ∧ atF bs i ≤ 255 := by
  unfold atF
  split
  · rename_i b h; exact hb b (List.mem_of_getElem? h)
  · have h1 := Int.tmod_nonneg (a := (i : Int) * 7 + bs.length) 256 (by omega)
    have h2 := Int.tmod_lt_of_pos ((i : Int) * 7 + bs.length) (b := 256) (by omega)
    omega
theorem at_ok (bs : List Int) (i : Nat) (hl : bs.length ≤ 1048576) (hb : ByteP bs) (hi : i ≤ 1048576) : SatP Try.prog 8 [.fr 5 (rowsY bs), .int .i64 i] (.int .i64 (atF bs i)) [] := by
  refine satP_of_body hT Try.func8 (by kernel_rfl) rfl (rs := [.tmp 4]) rfl (n := 20) rfl (by simp) rfl (by simp) fun E hE => ?_
  unfold St.init
  have hi0 : (0 : Int) ≤ (i : Nat) := by omega
  rcases Nat.lt_or_ge i bs.length with hlt | hge
  · obtain ⟨b, hby⟩ : ∃ b, bs[i]? = some b := ⟨_, List.getElem?_eq_getElem hlt⟩
    have hr := hb b (List.mem_of_getElem? hby)
    have hw := wrap_id (x := b) (by omega)
    have hrb := rowsY_at hby
    have hlt2 : (i : Int) < (bs.length : Int) := by omega
    have he : atF bs i = b := by simp [atF, hby]
    rw [he]
    have F := And.intro @rowsY_len (And.intro hrb (And.intro hlt (And.intro hi0 (And.intro hlt2 hw))))
    repeat' first
      | refine wSq fun _ hK => ?_
      | refine wRg ?_
      | refine wDr ?_
      | refine VWP_block ?_
      | refine VWP_skip ?_
      | refine VWP_exit ?_
      | refine VWP_ret ?_
      | (refine hK _ ?_; clear hK)
      | (clear hK; refine hK _ ?_; clear hK)
      | (clear hK; clear hK; refine hK _ ?_; clear hK)
      | (clear hK; clear hK; clear hK; refine hK _ ?_; clear hK)
      | (simp only [wHb, reduceCtorEq] at hb <;> try (exfalso; omega))
      | refine wCd (fun hb => ?_) fun hb => ?_
      | simp only [go_sem, Nat.reduceLT, Nat.reduceLeDiff, Nat.reduceEqDiff, Nat.reduceAdd, Nat.reduceMul, Nat.reduceSub, reduceCtorEq, F]
      | simp (disch := omega) only [decide_eq_true_eq, if_pos, if_neg, wrap_id, le_maxLen, and_true, true_and, if_true, ite_true]
      | refine wGd (fun hb => ?_) fun hb => ?_
    all_goals refine wLf ?_
    all_goals rfl
  · have hn : ¬ (i : Int) < (bs.length : Int) := by omega
    have hw1 := wrap_id (x := (i : Int) * 7) (by omega)
    have hw2 := wrap_id (x := (i : Int) * 7 + bs.length) (by omega)
    have he : atF bs i = ((i : Int) * 7 + bs.length).tmod 256 := by simp [atF, hge]
    rw [he]
    have F := And.intro @rowsY_len (And.intro hn (And.intro hw1 hw2))
    repeat' first
      | refine wSq fun _ hK => ?_
      | refine wRg ?_
      | refine wDr ?_
      | refine VWP_block ?_
      | refine VWP_skip ?_
      | refine VWP_exit ?_
      | refine VWP_ret ?_
      | (refine hK _ ?_; clear hK)
      | (clear hK; refine hK _ ?_; clear hK)
      | (clear hK; clear hK; refine hK _ ?_; clear hK)
      | (clear hK; clear hK; clear hK; refine hK _ ?_; clear hK)
      | (simp only [wHb, reduceCtorEq] at hb <;> try (exfalso; omega))
      | refine wCd (fun hb => ?_) fun hb => ?_
      | simp only [go_sem, Nat.reduceLT, Nat.reduceLeDiff, Nat.reduceEqDiff, Nat.reduceAdd, Nat.reduceMul, Nat.reduceSub, reduceCtorEq, F]
      | simp (disch := omega) only [decide_eq_true_eq, if_pos, if_neg, wrap_id, le_maxLen, and_true, true_and, if_true, ite_true]
      | refine wGd (fun hb => ?_) fun hb => ?_
    all_goals refine wLf ?_
    all_goals rfl
end Go.Proofs.Ytchkbgekmoileaa
