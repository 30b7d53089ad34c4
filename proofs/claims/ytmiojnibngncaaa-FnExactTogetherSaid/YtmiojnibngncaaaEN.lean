/- The value-level engine, thirty-third part: a call that turns what it is handed, its contract looked at first. -/
import Derived.Test.YtmiojnibngncaaaEc
namespace Go.Proofs.Ytmiojnibngncaaa
open Go Go.RowKit
set_option linter.unusedVariables false
set_option linter.unusedSimpArgs false

section
variable {E : Env} {rest : List Oper} {K : St → Prop} {tm : Nat → VV} {H : Heap} {nx N : Nat} {lim : Option Nat} {s : St}

theorem wOq {f : FuncId} {args args' : List VV} {dd : Nat} {v : VV} {O I : List Ent} (σ : List Nat) (c : SatO Try.prog f args' I v O) (k : K ⟨updV dd (bkV σ nx v) tm, putO (bkE σ nx) σ nx O H, nx + (O.length - σ.length), N, none⟩)
    (ha : args.map (viewA σ H) = args' := by (simp only [go_sem, Nat.reduceLT, Nat.reduceLeDiff, Nat.reduceEqDiff, Nat.reduceAdd, Nat.reduceMul, Nat.reduceSub, reduceCtorEq, F, frzA, frzC] <;> try rfl) <;> fail) (hI : (σ.map fun T => viewE σ H (H T)) = I := by (simp only [go_sem, Nat.reduceLT, Nat.reduceLeDiff, Nat.reduceEqDiff, Nat.reduceAdd, Nat.reduceMul, Nat.reduceSub, reduceCtorEq, F] <;> try rfl) <;> fail) (hn : σ.Nodup := by simp)
    (h1 : ∀ T ∈ σ, viewOkE σ H (H T) := by (simp only [go_sem, Nat.reduceLT, Nat.reduceLeDiff, Nat.reduceEqDiff, Nat.reduceAdd, Nat.reduceMul, Nat.reduceSub, reduceCtorEq, F, List.mem_cons, List.not_mem_nil, or_false, forall_eq_or_imp, forall_eq, viewOkE, viewOkC] <;> try simp) <;> fail) (h2 : ∀ x ∈ args, viewOk σ H x := by (simp only [go_sem, Nat.reduceLT, Nat.reduceLeDiff, Nat.reduceEqDiff, Nat.reduceAdd, Nat.reduceMul, Nat.reduceSub, reduceCtorEq, F, List.mem_cons, List.not_mem_nil, or_false, forall_eq_or_imp, forall_eq, viewOk, viewOkC, frzOk, frzOkC] <;> try simp) <;> fail) (hd : dd < N := by decide) :
    CallK Try.prog f args ⟨tm, H, nx, N, none⟩ (some dd) K := callO σ hn h1 h2 ha hI c hd k

theorem wOqx {f : FuncId} {args args' : List VV} {dd : Nat} {v : VV} {O I : List Ent} (σ : List Nat) (c : SatO Try.prog f args' I v O) (k : K ⟨updV dd (bkV σ nx v) tm, putO (bkE σ nx) σ nx O H, nx + (O.length - σ.length), N, none⟩)
    (ha : args.map (viewA σ H) = args' := by (simp only [go_sem, Nat.reduceLT, Nat.reduceLeDiff, Nat.reduceEqDiff, Nat.reduceAdd, Nat.reduceMul, Nat.reduceSub, reduceCtorEq, Int.reduceBEq, Int.reduceBNe, Int.reduceLT, Int.reduceLE, Int.reduceAdd, Int.reduceToNat, F, frzA, frzC] <;> try rfl) <;> fail) (hI : (σ.map fun T => viewE σ H (H T)) = I := by (simp only [go_sem, Nat.reduceLT, Nat.reduceLeDiff, Nat.reduceEqDiff, Nat.reduceAdd, Nat.reduceMul, Nat.reduceSub, reduceCtorEq, Int.reduceBEq, Int.reduceBNe, Int.reduceLT, Int.reduceLE, Int.reduceAdd, Int.reduceToNat, F] <;> try rfl) <;> fail) (hn : σ.Nodup := by simp)
    (h1 : ∀ T ∈ σ, viewOkE σ H (H T) := by (simp only [go_sem, Nat.reduceLT, Nat.reduceLeDiff, Nat.reduceEqDiff, Nat.reduceAdd, Nat.reduceMul, Nat.reduceSub, reduceCtorEq, Int.reduceBEq, Int.reduceBNe, Int.reduceLT, Int.reduceLE, Int.reduceAdd, Int.reduceToNat, F, List.mem_cons, List.not_mem_nil, or_false, forall_eq_or_imp, forall_eq, viewOkE, viewOkC] <;> try simp) <;> fail) (h2 : ∀ x ∈ args, viewOk σ H x := by (simp only [go_sem, Nat.reduceLT, Nat.reduceLeDiff, Nat.reduceEqDiff, Nat.reduceAdd, Nat.reduceMul, Nat.reduceSub, reduceCtorEq, Int.reduceBEq, Int.reduceBNe, Int.reduceLT, Int.reduceLE, Int.reduceAdd, Int.reduceToNat, F, List.mem_cons, List.not_mem_nil, or_false, forall_eq_or_imp, forall_eq, viewOk, viewOkC, frzOk, frzOkC] <;> try simp) <;> fail) (hd : dd < N := by decide) :
    CallK Try.prog f args ⟨tm, H, nx, N, none⟩ (some dd) K := callO σ hn h1 h2 ha hI c hd k
end
end Go.Proofs.Ytmiojnibngncaaa
