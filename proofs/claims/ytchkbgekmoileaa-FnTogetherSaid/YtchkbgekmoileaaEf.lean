/- The value-level engine, fifth bundle: regions of open order, tokens renamed, rows written one after the other, calls with a cursor. -/
import Derived.Test.YtchkbgekmoileaaEc
/- The value-level engine, thirty-fourth part: the walk's rules for calls that are handed a variable in which a slice lies that came in. -/
namespace Go.Proofs.Ytchkbgekmoileaa
open Go Go.RowKit
set_option linter.unusedVariables false
set_option linter.unusedSimpArgs false

section
variable {E : Env} {rest : List Oper} {K : St → Prop} {tm : Nat → VV} {H : Heap} {nx N : Nat} {lim : Option Nat} {s : St}

theorem wOv {f : FuncId} {args args' : List VV} {dd : Nat} {v : VV} {O I : List Ent} (σ : List Nat) (c : SatV Try.prog f args' I v O) (k : K ⟨updV dd (bkV σ nx v) tm, putO (bkE σ nx) σ nx O H, nx + (O.length - σ.length), N, none⟩)
    (ha : args.map (viewA σ H) = args' := by (simp only [go_sem, Nat.reduceLT, Nat.reduceLeDiff, Nat.reduceEqDiff, Nat.reduceAdd, Nat.reduceMul, Nat.reduceSub, reduceCtorEq, F, frzA, frzC] <;> try rfl) <;> fail) (hI : (σ.map fun T => viewE σ H (H T)) = I := by (simp only [go_sem, Nat.reduceLT, Nat.reduceLeDiff, Nat.reduceEqDiff, Nat.reduceAdd, Nat.reduceMul, Nat.reduceSub, reduceCtorEq, F, frzC] <;> try rfl) <;> fail) (hn : σ.Nodup := by simp)
    (h1 : ∀ T ∈ σ, vOkE σ (H T) := by (simp only [go_sem, Nat.reduceLT, Nat.reduceLeDiff, Nat.reduceEqDiff, Nat.reduceAdd, Nat.reduceMul, Nat.reduceSub, reduceCtorEq, F, List.mem_cons, List.not_mem_nil, or_false, forall_eq_or_imp, forall_eq, vOkE] <;> try simp [vOkC, idx]) <;> fail) (h2 : ∀ x ∈ args, vOkA σ x = true := by (simp only [List.mem_cons, List.not_mem_nil, or_false, forall_eq_or_imp, forall_eq] <;> try simp [vOkA, vOkC, idx]) <;> fail) (hd : dd < N := by decide) :
    CallK Try.prog f args ⟨tm, H, nx, N, none⟩ (some dd) K := callS (sem_of_V σ hn h1 h2 (by rw [ha, hI]; exact c)) hd k
theorem wSm {f : FuncId} {args : List VV} {dd k : Nat} {v : VV} {H' : Heap} (hS : SemRun Try.prog f args H nx H' k v) (hK : K ⟨updV dd v tm, H', nx + k, N, none⟩) (hd : dd < N := by decide) : CallK Try.prog f args ⟨tm, H, nx, N, none⟩ (some dd) K := callS hS hd hK
theorem wEv {f : FuncId} {fn : Func} {c : Code} {args : List VV} {I : List Ent} {v : VV} {O : List Ent} (hf : Try.prog.funcs[f]? = some fn) (rs : List ResultVar) (n m : Nat) (hk : keptLV I O) (hb : ∀ E, PinLe E m → VWP Try.prog E c (RetQO Try.prog ty rs m v O) ⟨fun t => (args[t]?).getD .any, HpE I, m, n, none⟩)
    (h1 : (fn.name == "runtime.NumGoroutine") = false := by kernel_rfl) (h2 : fn.body = some c := by rfl) (h3 : fn.results.toList = rs := by rfl) (h4 : fn.ntmps = n := by rfl) (h5 : args.length ≤ n := by simp) (h6 : outV v = true := by rfl) (h7 : I.length = m := by rfl) : SatV Try.prog f args I v O := satV_of_body hT hf h1 h2 h3 h4 h5 h6 h7 hk hb
theorem wEs {f : FuncId} {fn : Func} {c : Code} {xs : List VV} {H' : Heap} {k : Nat} {v : VV} (hf : Try.prog.funcs[f]? = some fn) (u n : Nat) (hlow : ∀ T, T < nx → (H T).live = true) (hb : ∀ E, VWP Try.prog E c (RetQI u v H' (nx + k)) ⟨fun t => (xs[t]?).getD .any, H, nx, n, none⟩)
    (h1 : (fn.name == "runtime.NumGoroutine") = false := by kernel_rfl) (h2 : fn.body = some c := by rfl) (h3 : fn.results.toList = [.tmp u] := by rfl) (h4 : fn.ntmps = n := by rfl) (h5 : xs.length ≤ n := by simp) : SemRun Try.prog f xs H nx H' k v := sem_of_body hT hf h1 h2 h3 h4 h5 hlow hb
theorem retI_mk {u k : Nat} {v : VV} {H' : Heap} (h1 : tm u = v) (h2 : H' = H) (h3 : nx ≤ k) : RetI u v H' k ⟨tm, H, nx, N, none⟩ := ⟨h1, fun T => .inl (by rw [h2]), h3, rfl⟩
@[go_sem] theorem retQI_ret {u : Nat} {v : VV} {H' : Heap} {k : Nat} {s : St} : RetQI u v H' k .ret s = RetI u v H' k s := rfl
@[go_sem] theorem retQI_normal {u : Nat} {v : VV} {H' : Heap} {k : Nat} {s : St} : RetQI u v H' k .normal s = RetI u v H' k s := rfl

theorem nextT {X : Type} {tl : X → List (Nat × VV)} {μ : X → Nat} {J : X → Prop} {x : X} (x' : X) (h1 : J x') (h2 : μ x' < μ x) (h3 : ∀ p ∈ tl x', tm p.1 = p.2) : NextT tl μ J H nx N x ⟨tm, H, nx, N, none⟩ := ⟨x', h1, h2, h3, rfl, rfl, rfl, rfl⟩
theorem VWP_loopT {P : Program} {X : Type} (tl : X → List (Nat × VV)) (μ : X → Nat) (J : X → Prop) (x0 : X) {c : Code} {Q : Exit → St → Prop} (hJ : J x0) (h1 : ∀ p ∈ tl x0, tm p.1 = p.2)
    (round : ∀ x, J x → VWP P E c (thenQ (NextT tl μ J H nx N x) Q) ⟨tmL (tl x), H, nx, N, none⟩) : VWP P E (.loop c) Q ⟨tm, H, nx, N, none⟩ := by
  refine VWP_loop (fun m s => ∃ x, J x ∧ m = μ x ∧ (∀ p ∈ tl x, s.tm p.1 = p.2) ∧ s.H = H ∧ s.nx = nx ∧ s.N = N ∧ s.lim = none) (μ x0) ⟨x0, hJ, rfl, h1, rfl, rfl, rfl, rfl⟩ ?_
  rintro m s ⟨x, k1, rfl, k2, k3, k4, k5, k6⟩
  have hw := wk_list (hl := []) k2 (by simp) (Nat.le_refl s.nx) k6
  have hw2 : Wk s ⟨tmL (tl x), s.H, s.nx, s.N, none⟩ := ⟨hw.tm, fun T => .inl rfl, Nat.le_refl _, rfl, hw.lim⟩
  rw [k3, k4, k5] at hw2
  refine VWP_wk hw2 (VWP_mono (fun e s he => ?_) (round x k1))
  cases e with
  | normal =>
    obtain ⟨x', j1, j2, j3, j4, j5, j6, j7⟩ := he
    exact ⟨μ x', j2, x', j1, rfl, j3, j4, j5, j6, j7⟩
  | _ => exact he
end
end Go.Proofs.Ytchkbgekmoileaa

/- The value-level engine, thirty-fifth part: a pointer is looked at. -/
namespace Go.Proofs.Ytchkbgekmoileaa
open Go Go.RowKit
set_option linter.unusedVariables false
set_option linter.unusedSimpArgs false
def vNil (s : St) (x : VV) : Option VV := match x with
  | .bp T j => if (s.H T).live then some (.bp T j) else none
  | .fp r => some (.fp r)
  | .np T i j => if (s.H T).isRoot then some (.np T i j) else none
  | _ => none
theorem vops_nilCheck {P : Program} {ty : Ty} {ops : Array Oper} {s : St} {K : St → Prop} {d : Nat} {x : Operand} {t : TypeId} {p : String} {af : Array Edge} {rest : List Oper} : vops P ty ops (⟨some d, .nilCheck x, t, p, af, none⟩ :: rest) s K = Puts P ty ops rest K s d (vNil s (ev s x)) := vops_val rfl rfl
theorem vNil_bp {tm : Nat → VV} {H : Heap} {nx N : Nat} {lim : Option Nat} {T j : Nat} : vNil ⟨tm, H, nx, N, lim⟩ (.bp T j) = if (H T).live then some (.bp T j) else none := rfl
theorem vNil_fp {s : St} {r : List PT} : vNil s (.fp r) = some (.fp r) := rfl
theorem vNil_np {tm : Nat → VV} {H : Heap} {nx N : Nat} {lim : Option Nat} {T i j : Nat} : vNil ⟨tm, H, nx, N, lim⟩ (.np T i j) = if (H T).isRoot then some (.np T i j) else none := rfl
attribute [go_sem] vops_nilCheck vNil_bp vNil_fp vNil_np

end Go.Proofs.Ytchkbgekmoileaa

/- The value-level engine, twenty-seventh part: a region of open order taken in every order that there is. -/
namespace Go.Proofs.Ytchkbgekmoileaa
open Go Go.RowKit
set_option linter.unusedVariables false
set_option linter.unusedSimpArgs false

/-- Orders, as they branch. -/
inductive Tr where
  | done
  | step (j : Nat) (t : Tr)
  | both (a b : Tr)
def Tr.firsts : Tr → List (Nat × Tr)
  | .done => []
  | .step j t => [(j, t)]
  | .both a b => a.firsts ++ b.firsts
def Tr.ends : Tr → Bool
  | .done => true
  | .step _ _ => false
  | .both a b => a.ends || b.ends
/-- All orders are among those of the tree. -/
def covT (ops : Array Oper) : Nat → Array Bool → Tr → Bool
  | 0, listed, t => (Region.ready .any ops listed).isEmpty && t.ends
  | f + 1, listed, t => (!(Region.ready .any ops listed).isEmpty || t.ends) && (Region.ready .any ops listed).all fun j => t.firsts.any fun p => p.1 == j && covT ops f (listed.setIfInBounds j true) p.2

def vtree (P : Program) (ty : Ty) (ops : Array Oper) : Tr → St → (St → Prop) → Prop
  | .done, s, K => K s
  | .step j t, s, K => match ops[j]? with
    | some o => vops P ty ops [o] s fun s' => vtree P ty ops t s' K
    | none => False
  | .both a b, s, K => vtree P ty ops a s K ∧ vtree P ty ops b s K
def contT (P : Program) (ty : Ty) (ops : Array Oper) (t : Tr) (K : St → Prop) : St → Prop := fun s => vtree P ty ops t s K
def vtreeO (P : Program) (ty : Ty) (ops : Array Oper) (o : Option Oper) (t : Tr) (s : St) (K : St → Prop) : Prop := match o with
  | some o => vops P ty ops [o] s (contT P ty ops t K)
  | none => False

section
variable {P : Program} {E : Env} {g g' : Gh} {s : St} {a : Act} {w w' : World} {ty : Ty} {ops : Array Oper}

theorem vtree_done {K : St → Prop} : vtree P ty ops .done s K = K s := rfl
theorem vtree_step {l : List Oper} {j : Nat} {t : Tr} {K : St → Prop} : vtree P ty l.toArray (.step j t) s K = vtreeO P ty l.toArray l[j]? t s K := by
  have : l.toArray[j]? = l[j]? := by simp
  simp only [vtree, vtreeO, this]
  rfl
theorem vtreeO_some {o : Oper} {t : Tr} {K : St → Prop} : vtreeO P ty ops (some o) t s K = vops P ty ops [o] s (contT P ty ops t K) := rfl
theorem vtree_both {x y : Tr} {K : St → Prop} : vtree P ty ops (.both x y) s K = (vtree P ty ops x s K ∧ vtree P ty ops y s K) := rfl
theorem contT_at {t : Tr} {K : St → Prop} {tm : Nat → VV} {H : Heap} {nx N : Nat} {lim : Option Nat} : contT P ty ops t K ⟨tm, H, nx, N, lim⟩ = vtree P ty ops t ⟨tm, H, nx, N, lim⟩ K := rfl

theorem tree_ends {K : St → Prop} : ∀ {t : Tr}, t.ends = true → vtree P ty ops t s K → K s
  | .done, _, h => h
  | .both x y, he, h => by
    simp only [Tr.ends, Bool.or_eq_true] at he
    rcases he with he | he
    · exact tree_ends he h.1
    · exact tree_ends he h.2
theorem tree_first {K : St → Prop} : ∀ {t : Tr} {j : Nat} {t' : Tr}, (j, t') ∈ t.firsts → vtree P ty ops t s K → vtree P ty ops (.step j t') s K
  | .step j t, _, _, hm, h => by
    simp only [Tr.firsts, List.mem_singleton, Prod.mk.injEq] at hm
    obtain ⟨rfl, rfl⟩ := hm
    exact h
  | .both x y, _, _, hm, h => by
    simp only [Tr.firsts, List.mem_append] at hm
    rcases hm with hm | hm
    · exact tree_first hm h.1
    · exact tree_first hm h.2
theorem tree_any (hT : TyOK P ty) {Q : Exit → St → Prop} : ∀ (f : Nat) (listed : Array Bool) (t : Tr) (g : Gh) (s : St) (a : Act) (w : World), covT ops f listed t = true → Rel P E g s a w → vtree P ty ops t s (Q .normal) → wpAny P .any ops (lift P E Q) f listed a w := by
  intro f
  induction f with
  | zero =>
    intro listed t g s a w hc hr h
    simp only [covT, Bool.and_eq_true, List.isEmpty_iff] at hc
    exact ⟨hc.1, g, s, hr, tree_ends hc.2 h⟩
  | succ f ih =>
    intro listed t g s a w hc hr h
    simp only [covT, Bool.and_eq_true, List.all_eq_true] at hc
    obtain ⟨h1, h2⟩ := hc
    refine ⟨fun h0 => ?_, fun j hj => ?_⟩
    · rw [h0] at h1
      exact ⟨g, s, hr, tree_ends (by simpa using h1) h⟩
    · obtain ⟨_, o, ho, _⟩ := mem_ready.1 hj
      have h3 := h2 j hj
      simp only [List.any_eq_true, Bool.and_eq_true, beq_iff_eq] at h3
      obtain ⟨⟨k, t'⟩, hm, hk, hc'⟩ := h3
      simp only at hk hc'
      subst hk
      have h4 := tree_first hm h
      simp only [vtree, ho] at h4
      unfold wpOp
      simp only [ho]
      refine vop_sound hT hr (ops := ops) (o := o) (K := fun s' => vtree P ty ops t' s' (Q .normal)) h4 fun g' s2 a' w' hs hr' _ => ih _ t' g' s2 a' w' hc' hr' hs

theorem VWP_orders (hT : TyOK P ty) (hm : P.follows .mixedOrders = true) {id : Nat} {l : List Oper} {Q : Exit → St → Prop} (t : Tr) (hok : covT l.toArray l.toArray.size (Array.replicate l.toArray.size false) t = true)
    (h : vtree P ty l.toArray t s (Q .normal)) : VWP P E (.region id l.toArray true) Q s := by
  intro g a w hr
  refine wp_region_any hm ?_
  exact tree_any hT _ _ t g s a _ hok ⟨hr.size, hr.defers, hr.heap.drew, hr.fresh, hr.tmps, hr.pin⟩ h
end
end Go.Proofs.Ytchkbgekmoileaa

/- The value-level engine, thirtieth part: a region of open order with a call that turns what it is handed, taken in one order of each class. -/
namespace Go.Proofs.Ytchkbgekmoileaa
open Go Go.RowKit
set_option linter.unusedVariables false
set_option linter.unusedSimpArgs false

/-- A call of a function by name, without a condition. -/
def plainCall (o : Oper) : Bool := match o.guard, o.op with
  | none, .call c => (match c.callee with | .value (.func _) => true | _ => false)
  | _, _ => false
/-- May the two change places? c is the call that has no window. -/
def commK (ops : Array Oper) (c i j : Nat) : Bool := match ops[i]?, ops[j]? with
  | some oi, some oj => oi.apart ops oj && (if i = c ∨ j = c then dryOp oi || dryOp oj else commB oi oj)
  | _, _ => false
/-- Take an operation out of a list, if all ahead of it may change places with it. -/
def pullK (ops : Array Oper) (c j : Nat) : List Nat → List Nat → Option (List Nat)
  | _, [] => none
  | seen, i :: L => if i = j then some (seen.reverse ++ L) else if commK ops c i j = true then pullK ops c j (i :: seen) L else none
def detAt (ops : Array Oper) (j : Nat) : Bool := match ops[j]? with
  | some o => (match o.op with
    | .call c => (match c.callee with | .builtin _ => true | _ => false)
    | _ => true)
  | none => false
def nextK (ops : Array Oper) (c j : Nat) (R : List (List Nat)) : List (List Nat) := if detAt ops j = true then R.filterMap (pullK ops c j []) else (R.filterMap (pullK ops c j [])).take 1
def covK (ops : Array Oper) (c : Nat) : Nat → Array Bool → List (List Nat) → Bool
  | 0, listed, R => (Region.ready .any ops listed).isEmpty && R.any (·.isEmpty)
  | f + 1, listed, R => (!(Region.ready .any ops listed).isEmpty || R.any (·.isEmpty)) && (Region.ready .any ops listed).all fun j => !(nextK ops c j R).isEmpty && covK ops c f (listed.setIfInBounds j true) (nextK ops c j R)
/-- Without what is there twice. -/
def onceL {α : Type} [DecidableEq α] : List α → List α
  | [] => []
  | x :: xs => if x ∈ onceL xs then onceL xs else x :: onceL xs
theorem onceL_mem {α : Type} [DecidableEq α] {x : α} : ∀ {xs : List α}, x ∈ xs → x ∈ onceL xs
  | y :: xs, h => by
    unfold onceL
    rcases List.mem_cons.1 h with rfl | h
    · split
      · assumption
      · exact List.mem_cons_self ..
    · have := onceL_mem h
      split
      · exact this
      · exact List.mem_cons_of_mem _ this
/-- The same as covK, level by level: what is reached on several ways is looked at once. -/
def covL (ops : Array Oper) (c : Nat) : Nat → List (Array Bool × List (List Nat)) → Bool
  | 0, L => L.all fun s => (Region.ready .any ops s.1).isEmpty && s.2.any (·.isEmpty)
  | f + 1, L => (L.all fun s => (!(Region.ready .any ops s.1).isEmpty || s.2.any (·.isEmpty)) && (Region.ready .any ops s.1).all fun j => !(nextK ops c j s.2).isEmpty) &&
      covL ops c f (onceL (L.flatMap fun s => (Region.ready .any ops s.1).map fun j => (s.1.setIfInBounds j true, nextK ops c j s.2)))
theorem covL_covK {ops : Array Oper} {c : Nat} : ∀ {f : Nat} {L : List (Array Bool × List (List Nat))}, covL ops c f L = true → ∀ s ∈ L, covK ops c f s.1 s.2 = true
  | 0, L, h, s, hs => by
    unfold covL at h
    unfold covK
    exact List.all_eq_true.1 h s hs
  | f + 1, L, h, s, hs => by
    unfold covL at h
    rw [Bool.and_eq_true] at h
    have h1 := List.all_eq_true.1 h.1 s hs
    rw [Bool.and_eq_true] at h1
    unfold covK
    rw [Bool.and_eq_true]
    refine ⟨h1.1, List.all_eq_true.2 fun j hj => ?_⟩
    rw [Bool.and_eq_true]
    refine ⟨List.all_eq_true.1 h1.2 j hj, ?_⟩
    exact covL_covK h.2 (s.1.setIfInBounds j true, nextK ops c j s.2) (onceL_mem (List.mem_flatMap.2 ⟨s, hs, List.mem_map.2 ⟨j, hj, rfl⟩⟩))
def permOK (n : Nat) (L : List Nat) : Bool := L.all (fun i => decide (i < n)) && decide L.Nodup

section
variable {P : Program} {E : Env} {g g' : Gh} {s s2 s' d d1 d2 : St} {a : Act} {w w' : World} {ty : Ty} {ops : Array Oper} {o oi oj : Oper}

theorem vstep_own (ho : plainCall o = true) (h : vstep P ty ops o s s') : ∃ v H' n', s.nx ≤ n' ∧ s' = { s with tm := putf o.dst v s.tm, H := H', nx := n' } ∧
    ∀ s2 : St, (∀ t ∈ o.looksAt ops, s2.tm t = s.tm t) → s2.H = s.H → s2.nx = s.nx → s2.lim = s.lim → s2.N = s.N → vstep P ty ops o s2 { s2 with tm := putf o.dst v s2.tm, H := H', nx := n' } := by
  have hg : o.guard = none ∧ ∃ c f, o.op = .call c ∧ c.callee = .value (.func f) := by
    unfold plainCall at ho
    split at ho
    · rename_i c hgu hop
      split at ho
      · rename_i f hc
        exact ⟨hgu, c, f, hop, hc⟩
      · cases ho
    · cases ho
  obtain ⟨hgu, c, f, hop, hcal⟩ := hg
  have hw : ∀ s, vwant ops s o = some true := fun s => by simp only [vwant, hgu]
  have hf : ∀ s, fcall s o = some (f, c.args.toList, c.argTypes.toList, []) := fun s => by simp only [fcall, hop, hcal]
  unfold vstep vop at h
  rw [hw, hf] at h
  simp only at h
  have hh : ∀ s2 : St, (∀ t ∈ o.looksAt ops, s2.tm t = s.tm t) → s2.H = s.H → handed ty s2 c.args.toList c.argTypes.toList = handed ty s c.args.toList c.argTypes.toList := fun s2 ht hH =>
    (handed_agree (ops := ops) (o := o) (ty := ty) ht (fun t _ T _ => by rw [hH]) (fun t _ T _ => by rw [hH]) c.args.toList c.argTypes.toList (fun x hx => (fcall_mem (ops := ops) (hf s)).1 x hx)).1
  rcases h with ⟨h1, v, l, h2, h3, s1, h4, rfl⟩ | ⟨h1, σ, v, O, h2, h3, h4, h5, h6, s1, h7, rfl⟩ | ⟨h1, H', k, v, h2, s1, h7, rfl⟩
  · obtain ⟨p1, p2⟩ := putd_putf h4
    refine ⟨_, _, _, Nat.le_add_right _ _, p1, fun s2 ht hH hn hl hN => ?_⟩
    have hh2 := hh s2 ht hH
    rcases s2 with ⟨tm2, H2, nx2, N2, lim2⟩
    simp only at ht hH hn hl hN
    subst hH; subst hn; subst hl; subst hN
    unfold vstep vop
    rw [hw, hf]
    simp only
    rw [hh2]
    exact .inl ⟨h1, v, l, h2, h3, _, p2 (St.imp ⟨tm2, s.H, s.nx, s.N, s.lim⟩ l) rfl, rfl⟩
  · obtain ⟨p1, p2⟩ := putd_putf h7
    refine ⟨_, _, _, Nat.le_add_right _ _, p1, fun s2 ht hH hn hl hN => ?_⟩
    have hh2 := hh s2 ht hH
    rcases s2 with ⟨tm2, H2, nx2, N2, lim2⟩
    simp only at ht hH hn hl hN
    subst hH; subst hn; subst hl; subst hN
    unfold vstep vop
    rw [hw, hf]
    simp only
    rw [hh2]
    exact .inr (.inl ⟨h1, σ, v, O, h2, h3, h4, h5, h6, _, p2 (St.impO ⟨tm2, s.H, s.nx, s.N, s.lim⟩ σ O) rfl, rfl⟩)
  · obtain ⟨p1, p2⟩ := putd_putf h7
    refine ⟨_, _, _, Nat.le_add_right _ _, p1, fun s2 ht hH hn hl hN => ?_⟩
    have hh2 := hh s2 ht hH
    rcases s2 with ⟨tm2, H2, nx2, N2, lim2⟩
    simp only at ht hH hn hl hN
    subst hH; subst hn; subst hl; subst hN
    unfold vstep vop
    rw [hw, hf]
    simp only
    rw [hh2]
    exact .inr (.inr ⟨h1, H', k, v, h2, _, p2 (St.sem ⟨tm2, s.H, s.nx, s.N, s.lim⟩ H' k) rfl, rfl⟩)
def detOp (o : Oper) : Bool := match o.op with
  | .call c => (match c.callee with | .builtin _ => true | _ => false)
  | _ => true
theorem vstep_det (hd : detOp o = true) (h1 : vstep P ty ops o s s2) (h2 : vstep P ty ops o s s') : s2 = s' := by
  have hf : fcall s o = none := by
    unfold fcall
    unfold detOp at hd
    split at hd
    · rename_i c hop
      rw [hop]
      simp only
      split at hd
      · rename_i b hb
        rw [hb]
      · cases hd
    · rename_i hno
      cases ho : o.op <;> try rfl
      rename_i c
      exact absurd ho (hno c)
  unfold vstep vop at h1 h2
  rw [hf] at h1 h2
  split at h1
  · rename_i hw
    rw [hw] at h2
    obtain ⟨a1, b1, rfl⟩ := h1
    obtain ⟨a2, b2, rfl⟩ := h2
    rw [b1] at b2
    exact Option.some.inj b2
  · rename_i hw
    rw [hw] at h2
    obtain ⟨a1, b1, rfl⟩ := h1
    obtain ⟨a2, b2, rfl⟩ := h2
    rw [b1] at b2
    exact Option.some.inj b2
  · exact h1.elim

def stepK (P : Program) (ty : Ty) (ops : Array Oper) (b c i : Nat) (d d' : St) : Prop := ∃ o, ops[i]? = some o ∧ (if i = c then vstep P ty ops o d d' else ∃ s', vstep P ty ops o (d.win (lo b i) (hi b i)) s' ∧ d' = s'.nm d.nx)
def ChainK (P : Program) (ty : Ty) (ops : Array Oper) (b c : Nat) : List Nat → St → (St → Prop) → Prop
  | [], d, K => K d
  | i :: L, d, K => ∃ d', stepK P ty ops b c i d d' ∧ ChainK P ty ops b c L d' K
def UnseenK (g : Gh) (b c : Nat) (U : List Nat) : Prop := ∀ i ∈ U, i ≠ c → ∀ T, lo b i ≤ T → T < hi b i → g.sn T = false
def GoodK (P : Program) (E : Env) (b n c : Nat) (U : List Nat) (d : St) : Prop := d.lim = none ∧ b + n * 64 ≤ d.nx ∧ ∃ g a w, Rel P E g d a w ∧ UnseenK g b c U

theorem nm_self (h : d.lim = none) : d.nm d.nx = d := by cases d; simp only at h; subst h; rfl
theorem hi_le {b i n : Nat} (h : i < n) : hi b i ≤ b + n * 64 := by
  have : (i + 1) * 64 ≤ n * 64 := Nat.mul_le_mul_right _ h
  unfold hi; omega
theorem win_far {b i k : Nat} (h : i ≠ k) : hi b i ≤ lo b k ∨ hi b k ≤ lo b i := by
  unfold lo hi
  rcases Nat.lt_or_gt_of_ne h with h | h
  · have : (i + 1) * 64 ≤ k * 64 := Nat.mul_le_mul_right _ h
    exact .inl (by omega)
  · have : (k + 1) * 64 ≤ i * 64 := Nat.mul_le_mul_right _ h
    exact .inr (by omega)
/-- One step, as it comes to pass: what it leads to, whoever takes it. -/
theorem stepK_sound (hT : TyOK P ty) {b n c i : Nat} {U : List Nat} (hUn : ∀ k ∈ U, k < n) (hl : d.lim = none) (hb : b + n * 64 ≤ d.nx) (hr : Rel P E g d a w) (hU : UnseenK g b c U) (hiU : i ∈ U) {o : Oper} (hpc : i = c → plainCall o = true)
    (h : if i = c then vstep P ty ops o d d1 else ∃ s', vstep P ty ops o (d.win (lo b i) (hi b i)) s' ∧ d1 = s'.nm d.nx) {Kp : Act → World → Prop} {Q : Exit → Act → World → Prop}
    (hK : ∀ g' a' w', Rel P E g' d1 a' w' → d1.lim = none → b + n * 64 ≤ d1.nx → UnseenK g' b c (U.filter (· ≠ i)) → Kp a' w') :
    if Region.wanted o (yielded ops a.tmps) then o.wp P a w Kp Q ∨ (o.asks P a w ∧ LetsOut Q) else Kp (a.put o.dst undef) w := by
  by_cases hic : i = c
  · rw [if_pos hic] at h
    obtain ⟨v, H', n', h1, h2, _⟩ := vstep_own (hpc hic) h
    have e1 : d1.lim = none := by rw [h2]; exact hl
    have e2 : d1.nx = n' := by rw [h2]
    refine vop_sound hT hr (ops := ops) (o := o) (K := (· = d1)) h fun g' s2 a' w' hs hr' hf => ?_
    subst hs
    refine hK g' a' w' hr' e1 (by omega) fun k hk hkc T t1 t2 => ?_
    have hkU : k ∈ U := (List.mem_filter.1 hk).1
    have hle := hi_le (b := b) (hUn k hkU)
    rw [hf T (fun hh => by omega)]
    exact hU k hkU hkc T t1 t2
  · rw [if_neg hic] at h
    obtain ⟨s', hv, rfl⟩ := h
    have hnx := stepD_nx (lohi b i) hv
    have hle := hi_le (b := b) (hUn i hiU)
    have hw := rel_win (l := lo b i) (h := hi b i) (n := d.nx) (by rw [nm_self hl]; exact hr) (hU i hiU hic)
    refine vop_sound hT hw (ops := ops) (o := o) (K := (· = s')) hv fun g' s2 a' w' hs hr' hf => ?_
    subst hs
    refine hK g' a' w' (rel_nm hr' fun T hT => ?_) rfl hb fun k hk hkc T t1 t2 => ?_
    · rw [hf T (fun _ => by omega)]
      exact hr.fresh T ⟨hT, by rw [hl]; trivial⟩
    · simp only [List.mem_filter, decide_eq_true_eq] at hk
      have hfar := win_far (b := b) hk.2
      have := lohi b k
      rw [hf T (fun hh => by have hh : lo b i ≤ T := hh; omega)]
      exact hU k hk.1 hkc T t1 t2
theorem goodK_step (hT : TyOK P ty) {b n c i : Nat} {U : List Nat} (hUn : ∀ k ∈ U, k < n) (hg : GoodK P E b n c U d) (hiU : i ∈ U) (hpc : ∀ o, ops[c]? = some o → plainCall o = true) (h : stepK P ty ops b c i d d1) : GoodK P E b n c (U.filter (· ≠ i)) d1 := by
  obtain ⟨hl, hb, g, a, w, hr, hU⟩ := hg
  obtain ⟨o, ho, h⟩ := h
  have key := stepK_sound (E := E) hT hUn hl hb hr hU hiU (o := o) (fun hic => hpc o (hic ▸ ho)) h (Kp := fun a' w' => ∃ g', Rel P E g' d1 a' w' ∧ d1.lim = none ∧ b + n * 64 ≤ d1.nx ∧ UnseenK g' b c (U.filter (· ≠ i))) (Q := fun _ _ _ => False)
    (fun g' a' w' k1 k2 k3 k4 => ⟨g', k1, k2, k3, k4⟩)
  have : ∃ a' w' g', Rel P E g' d1 a' w' ∧ d1.lim = none ∧ b + n * 64 ≤ d1.nx ∧ UnseenK g' b c (U.filter (· ≠ i)) := by
    split at key
    · rcases key with k | ⟨_, _, _, k⟩
      · obtain ⟨a', w', g', k1⟩ := wp_ex k
        exact ⟨a', w', g', k1⟩
      · exact k.elim
    · obtain ⟨g', k1⟩ := key
      exact ⟨_, _, g', k1⟩
  obtain ⟨a', w', g', k1, k2, k3, k4⟩ := this
  exact ⟨k2, k3, g', a', w', k1, k4⟩

theorem commK_step {b n c i j : Nat} {U : List Nat} (hUn : ∀ k ∈ U, k < n) (hg : GoodK P E b n c U d) (hiU : i ∈ U) (hjU : j ∈ U) (hij : i ≠ j) (hpc : ∀ o, ops[c]? = some o → plainCall o = true) (hc : commK ops c i j = true)
    (h1 : stepK P ty ops b c i d d1) (h2 : stepK P ty ops b c j d1 d2) : ∃ d', stepK P ty ops b c j d d' ∧ stepK P ty ops b c i d' d2 := by
  obtain ⟨hl, hb, g, a, w, hr, hU⟩ := hg
  obtain ⟨oi, hoi, h1⟩ := h1
  obtain ⟨oj, hoj, h2⟩ := h2
  unfold commK at hc
  rw [hoi, hoj] at hc
  simp only [Bool.and_eq_true] at hc
  obtain ⟨hap, hc⟩ := hc
  obtain ⟨a1, a2, a3⟩ := Oper.apart_spec hap
  have pi : ∀ (v : VV) (f : Nat → VV), ∀ t ∈ oj.looksAt ops, putf oi.dst v f t = f t := fun v f t ht => putf_ne fun d hd hh => a1 d hd (hh ▸ ht)
  have pj : ∀ (v : VV) (f : Nat → VV), ∀ t ∈ oi.looksAt ops, putf oj.dst v f t = f t := fun v f t ht => putf_ne fun d hd hh => a3 d hd (hh ▸ ht)
  by_cases hic : i = c
  · have hjc : ¬ j = c := fun h => hij (hic.trans h.symm)
    rw [if_pos hic] at h1
    rw [if_neg hjc] at h2
    rw [if_pos (.inl hic)] at hc
    obtain ⟨v, H', n', m1, rfl, m4⟩ := vstep_own (hpc oi (hic ▸ hoi)) h1
    have hdj : dryOp oj = true := by
      rcases Bool.or_eq_true _ _ ▸ hc with h | h
      · exfalso
        have hp := hpc oi (hic ▸ hoi)
        unfold plainCall at hp
        split at hp
        · rename_i hop
          simp [dryOp, hop] at h
        · cases hp
      · exact h
    obtain ⟨s', hv, rfl⟩ := h2
    obtain ⟨vj, rfl, k4⟩ := vstep_dry hdj hv
    refine ⟨({ (d.win (lo b j) (hi b j)) with tm := putf oj.dst vj d.tm } : St).nm d.nx, ⟨oj, hoj, ?_⟩, oi, hoi, ?_⟩
    · rw [if_neg hjc]
      exact ⟨_, k4 (d.win (lo b j) (hi b j)) (fun t ht => (pi v d.tm t ht).symm) rfl, rfl⟩
    · rw [if_pos hic]
      have := m4 (({ (d.win (lo b j) (hi b j)) with tm := putf oj.dst vj d.tm } : St).nm d.nx) (fun t ht => pj vj d.tm t ht) rfl rfl hl.symm rfl
      have e : putf oi.dst v (putf oj.dst vj d.tm) = putf oj.dst vj (putf oi.dst v d.tm) := putf_comm a2
      have e2 : ({ d with tm := putf oi.dst v d.tm, H := H', nx := n' } : St).lim = none := hl
      simp only [St.nm, St.win] at this ⊢
      rw [e] at this
      exact hl ▸ this
  · by_cases hjc : j = c
    · rw [if_neg hic] at h1
      rw [if_pos hjc] at h2
      rw [if_pos (.inr hjc)] at hc
      have hdi : dryOp oi = true := by
        rcases Bool.or_eq_true _ _ ▸ hc with h | h
        · exact h
        · exfalso
          have hp := hpc oj (hjc ▸ hoj)
          unfold plainCall at hp
          split at hp
          · rename_i hop
            simp [dryOp, hop] at h
          · cases hp
      obtain ⟨s', hv, rfl⟩ := h1
      obtain ⟨vi, rfl, k4⟩ := vstep_dry hdi hv
      obtain ⟨v, H', n', m1, rfl, m4⟩ := vstep_own (hpc oj (hjc ▸ hoj)) h2
      have e1 := m4 d (fun t ht => (pi vi d.tm t ht).symm) rfl rfl hl rfl
      refine ⟨_, ⟨oj, hoj, by rw [if_pos hjc]; exact e1⟩, oi, hoi, ?_⟩
      rw [if_neg hic]
      refine ⟨_, k4 _ (fun t ht => pj v d.tm t ht) rfl, ?_⟩
      simp only [St.nm, St.win, St.mk.injEq, and_true, true_and]
      exact (putf_comm a2).symm
    · rw [if_neg hic] at h1
      rw [if_neg hjc] at h2
      rw [if_neg (fun h => h.elim hic hjc)] at hc
      obtain ⟨s1, v1, rfl⟩ := h1
      obtain ⟨s3, v3, rfl⟩ := h2
      obtain ⟨d', ⟨t1, u1, rfl⟩, t2, u2, u3⟩ := comm_step (d := d) (d1 := s1.nm 0) (d2 := s3.nm 0) (lohi b i) (lohi b j) (win_far hij) hap hc (fun t T hTt => by
        have hs := vrel_seen (hr.tmps t) T hTt
        refine ⟨fun hh => ?_, fun hh => ?_⟩
        · rw [hU i hiU hic T hh.1 hh.2] at hs; cases hs
        · rw [hU j hjU hjc T hh.1 hh.2] at hs; cases hs) (fun t T hTt => by
        have hs := deepA_seen hr.heap _ T hTt
        refine ⟨fun hh => ?_, fun hh => ?_⟩
        · rw [hU i hiU hic T hh.1 hh.2] at hs; cases hs
        · rw [hU j hjU hjc T hh.1 hh.2] at hs; cases hs) ⟨s1, v1, rfl⟩ ⟨s3, v3, rfl⟩
      refine ⟨t1.nm d.nx, ⟨oj, hoj, by rw [if_neg hjc]; exact ⟨t1, u1, rfl⟩⟩, oi, hoi, ?_⟩
      rw [if_neg hic]
      refine ⟨t2, u2, ?_⟩
      have u4 := congrArg (fun s => s.nm d.nx) u3
      exact u4

/-- Out of the list, to its beginning. -/
theorem pullK_chain (hT : TyOK P ty) {b n c j : Nat} {K : St → Prop} (hpc : ∀ o, ops[c]? = some o → plainCall o = true) : ∀ (L seen L' U : List Nat) (d : St), pullK ops c j seen L = some L' → GoodK P E b n c U d → (∀ k ∈ U, k < n) → (∀ k ∈ L, k ∈ U) → L.Nodup → ChainK P ty ops b c L d K →
    ∃ L2, L' = seen.reverse ++ L2 ∧ (∀ k, k ∈ L2 ↔ k ∈ L ∧ k ≠ j) ∧ L2.Nodup ∧ j ∈ L ∧ ∃ d', stepK P ty ops b c j d d' ∧ ChainK P ty ops b c L2 d' K
  | [], seen, L', U, d, h, _, _, _, _, _ => by simp [pullK] at h
  | i :: L, seen, L', U, d, h, hg, hUn, hLU, hnd, hch => by
    rw [List.nodup_cons] at hnd
    unfold pullK at h
    split at h
    · rename_i hij
      subst hij
      simp only [Option.some.injEq] at h
      refine ⟨L, h.symm, fun k => ⟨fun hk => ⟨List.mem_cons_of_mem _ hk, fun he => hnd.1 (he ▸ hk)⟩, fun hk => (List.mem_cons.1 hk.1).resolve_left hk.2⟩, hnd.2, List.mem_cons_self .., hch⟩
    · rename_i hij
      split at h
      · rename_i hcm
        obtain ⟨d1, h1, h2⟩ := hch
        have hiU := hLU i (List.mem_cons_self ..)
        have hg1 := goodK_step hT hUn hg hiU hpc h1
        obtain ⟨L2, e1, e2, e3, e4, d2, k1, k2⟩ := pullK_chain hT hpc L (i :: seen) L' (U.filter (· ≠ i)) d1 h hg1 (fun k hk => hUn k (List.mem_filter.1 hk).1) (fun k hk => by
          have : k ≠ i := fun he => hnd.1 (he ▸ hk)
          simp [this, hLU k (List.mem_cons_of_mem _ hk)]) hnd.2 h2
        obtain ⟨d', u1, u2⟩ := commK_step hUn hg hiU (hLU j (List.mem_cons_of_mem _ e4)) hij hpc hcm h1 k1
        refine ⟨i :: L2, by rw [e1]; simp, fun k => ?_, ?_, List.mem_cons_of_mem _ e4, d', u1, d2, u2, k2⟩
        · simp only [List.mem_cons, e2]
          constructor
          · rintro (rfl | ⟨h1, h2⟩)
            · exact ⟨.inl rfl, hij⟩
            · exact ⟨.inr h1, h2⟩
          · rintro ⟨rfl | h1, h2⟩
            · exact .inl rfl
            · exact .inr ⟨h1, h2⟩
        · rw [List.nodup_cons]
          exact ⟨fun hh => hnd.1 ((e2 i).1 hh).1, e3⟩
      · cases h

theorem anyK (hT : TyOK P ty) {b n c : Nat} {Q : Exit → St → Prop} (hn : ops.size = n) (hpc : ∀ o, ops[c]? = some o → plainCall o = true) :
    ∀ (fuel : Nat) (listed : Array Bool) (R : List (List Nat)) (g : Gh) (d : St) (a : Act) (w : World), covK ops c fuel listed R = true → (∀ L ∈ R, L.Nodup ∧ ∀ k, k ∈ L ↔ k ∈ unl n listed) → d.lim = none → b + n * 64 ≤ d.nx → Rel P E g d a w → UnseenK g b c (unl n listed) → listed.size = n →
      (∀ L ∈ R, ChainK P ty ops b c L d (Q .normal)) → wpAny P .any ops (lift P E Q) fuel listed a w := by
  have fin : ∀ (R : List (List Nat)) (d : St), R.any (·.isEmpty) = true → (∀ L ∈ R, ChainK P ty ops b c L d (Q .normal)) → Q .normal d := by
    intro R d h1 h2
    rw [List.any_eq_true] at h1
    obtain ⟨L, hL, he⟩ := h1
    have := h2 L hL
    cases L with
    | nil => exact this
    | cons => simp at he
  intro fuel
  induction fuel with
  | zero =>
    intro listed R g d a w hcov hR hl hb hr hU hsz hch
    simp only [covK, Bool.and_eq_true, List.isEmpty_iff] at hcov
    exact ⟨hcov.1, g, _, hr, fin R d hcov.2 hch⟩
  | succ fuel ih =>
    intro listed R g d a w hcov hR hl hb hr hU hsz hch
    simp only [covK, Bool.and_eq_true, Bool.or_eq_true, Bool.not_eq_true', List.all_eq_true] at hcov
    obtain ⟨hc1, hc2⟩ := hcov
    refine ⟨fun h0 => ⟨g, _, hr, fin R d (hc1.resolve_left (by simp [h0])) hch⟩, fun j hj => ?_⟩
    obtain ⟨hne, hcov'⟩ := hc2 j hj
    obtain ⟨h0, oj, hoj, hall⟩ := mem_ready.1 hj
    have hlt : j < n := by rw [← hn]; exact (Array.getElem?_eq_some_iff.1 hoj).1
    have hUn : ∀ k ∈ unl n listed, k < n := fun k hk => by
      simp only [unl, List.mem_filter, List.mem_range] at hk
      exact hk.1
    have hjU : j ∈ unl n listed := by simp only [unl, List.mem_filter, List.mem_range, Bool.not_eq_true']; exact ⟨hlt, h0⟩
    have hgood : GoodK P E b n c (unl n listed) d := ⟨hl, hb, g, a, w, hr, hU⟩
    have key : ∀ L' ∈ R.filterMap (pullK ops c j []), (L'.Nodup ∧ ∀ k, k ∈ L' ↔ k ∈ unl n (listed.setIfInBounds j true)) ∧ ∃ d', stepK P ty ops b c j d d' ∧ ChainK P ty ops b c L' d' (Q .normal) := by
      intro L' hL'
      obtain ⟨L, hL, hp⟩ := List.mem_filterMap.1 hL'
      obtain ⟨r1, r2⟩ := hR L hL
      obtain ⟨L2, e1, e2, e3, e4, e5⟩ := pullK_chain hT hpc L [] L' (unl n listed) d hp hgood hUn (fun k hk => (r2 k).1 hk) r1 (hch L hL)
      simp only [List.reverse_nil, List.nil_append] at e1
      subst e1
      refine ⟨⟨e3, fun k => ?_⟩, e5⟩
      rw [unl_set hsz hlt, List.mem_filter, e2, r2]
      simp
    have key2 : ∃ d', stepK P ty ops b c j d d' ∧ ∀ L' ∈ nextK ops c j R, (L'.Nodup ∧ ∀ k, k ∈ L' ↔ k ∈ unl n (listed.setIfInBounds j true)) ∧ ChainK P ty ops b c L' d' (Q .normal) := by
      cases hn' : nextK ops c j R with
      | nil => rw [hn'] at hne; simp at hne
      | cons L0 R0 =>
        unfold nextK at hn'
        split at hn'
        · rename_i hda
          rw [hn'] at key
          obtain ⟨_, d0, k1, k2⟩ := key L0 (List.mem_cons_self ..)
          refine ⟨d0, k1, fun L' hL' => ?_⟩
          obtain ⟨m1, d', m2, m3⟩ := key L' hL'
          have : d' = d0 := by
            obtain ⟨o1, q1, q2⟩ := k1
            obtain ⟨o2, q3, q4⟩ := m2
            rw [q1] at q3
            cases q3
            have hdo : detOp o1 = true := by
              unfold detAt at hda
              rw [q1] at hda
              exact hda
            by_cases hjc : j = c
            · rw [if_pos hjc] at q2 q4
              exact vstep_det hdo q4 q2
            · rw [if_neg hjc] at q2 q4
              obtain ⟨s1, t1, rfl⟩ := q2
              obtain ⟨s3, t3, rfl⟩ := q4
              rw [vstep_det hdo t3 t1]
          rw [this] at m3
          exact ⟨m1, m3⟩
        · have hm : ∀ L' ∈ L0 :: R0, L' ∈ R.filterMap (pullK ops c j []) := fun L' hL' => by rw [← hn'] at hL'; exact List.mem_of_mem_take hL'
          have hR0 : R0 = [] := by
            have := congrArg List.length hn'
            simp only [List.length_take, List.length_cons] at this
            exact List.length_eq_zero_iff.1 (by omega)
          subst hR0
          obtain ⟨m1, d0, k1, k2⟩ := key L0 (hm L0 (List.mem_cons_self ..))
          refine ⟨d0, k1, fun L' hL' => ?_⟩
          rw [List.mem_singleton.1 hL']
          exact ⟨m1, k2⟩
    obtain ⟨d', hst, hall'⟩ := key2
    obtain ⟨oj', hoj', hst⟩ := hst
    rw [hoj] at hoj'
    cases hoj'
    unfold wpOp
    simp only [hoj]
    refine stepK_sound hT hUn hl hb hr hU hjU (fun hjc => hpc oj (hjc ▸ hoj)) hst fun g' a' w' k1 k2 k3 k4 => ?_
    exact ih _ (nextK ops c j R) g' d' a' w' hcov' (fun L' hL' => (hall' L' hL').1) k2 k3 k1 (by rw [unl_set hsz hlt]; exact k4) (by simpa using hsz) (fun L' hL' => (hall' L' hL').2)

/-- What comes of a list of operations, each with its window. -/
def vcls (P : Program) (ty : Ty) (ops : Array Oper) (b c : Nat) : List Nat → St → (St → Prop) → Prop
  | [], s, K => K s
  | i :: L, s, K => match ops[i]? with
    | none => False
    | some o => if i = c then vop P ty ops o s (fun s' => vcls P ty ops b c L s' K) else vop P ty ops o (s.win (lo b i) (hi b i)) fun s' => vcls P ty ops b c L (s'.nm s.nx) K
theorem vcls_chain {b c : Nat} {K : St → Prop} : ∀ (L : List Nat) (s : St), vcls P ty ops b c L s K → ChainK P ty ops b c L s K
  | [], s, h => h
  | i :: L, s, h => by
    unfold vcls at h
    split at h
    · exact h.elim
    · rename_i o ho
      split at h
      · rename_i hic
        obtain ⟨s', h1, h2⟩ := vop_ex.1 h
        exact ⟨s', ⟨o, ho, by rw [if_pos hic]; exact h1⟩, vcls_chain L s' h2⟩
      · rename_i hic
        obtain ⟨s', h1, h2⟩ := vop_ex.1 h
        exact ⟨s'.nm s.nx, ⟨o, ho, by rw [if_neg hic]; exact ⟨s', h1, rfl⟩⟩, vcls_chain L _ h2⟩
def contC (P : Program) (ty : Ty) (ops : Array Oper) (b c : Nat) (L : List Nat) (top : Option Nat) (K : St → Prop) (s : St) : Prop := match top with
  | none => vcls P ty ops b c L s K
  | some n => vcls P ty ops b c L (s.nm n) K
def vclsO (P : Program) (ty : Ty) (ops : Array Oper) (b c i : Nat) (own : Bool) (o : Option Oper) (L : List Nat) (s : St) (K : St → Prop) : Prop := match o, own with
  | none, _ => False
  | some o, true => vops P ty ops [o] s (contC P ty ops b c L none K)
  | some o, false => vops P ty ops [o] (s.win (b + i * 64) (b + (i + 1) * 64)) (contC P ty ops b c L (some s.nx) K)
theorem vcls_nil {b c : Nat} {K : St → Prop} : vcls P ty ops b c [] s K = K s := rfl
theorem vcls_cons {b c i : Nat} {l : List Oper} {L : List Nat} {K : St → Prop} : vcls P ty l.toArray b c (i :: L) s K = vclsO P ty l.toArray b c i (Nat.beq i c) l[i]? L s K := by
  have : l.toArray[i]? = l[i]? := by simp
  simp only [vcls, this]
  cases l[i]? with
  | none => cases Nat.beq i c <;> rfl
  | some o =>
    by_cases h : i = c
    · subst h
      rw [Nat.beq_refl]
      show (if i = i then _ else _) = _
      rw [if_pos rfl]
      rfl
    · have hb : Nat.beq i c = false := by
        cases hh : Nat.beq i c with
        | false => rfl
        | true => exact absurd (Nat.eq_of_beq_eq_true hh) h
      rw [hb]
      show (if i = c then _ else _) = _
      rw [if_neg h]
      rfl
theorem vclsO_own {b c i : Nat} {o : Oper} {L : List Nat} {K : St → Prop} : vclsO P ty ops b c i true (some o) L s K = vops P ty ops [o] s (contC P ty ops b c L none K) := rfl
theorem vclsO_win {b c i : Nat} {o : Oper} {L : List Nat} {K : St → Prop} {tm : Nat → VV} {H : Heap} {nx N : Nat} {lim : Option Nat} : vclsO P ty ops b c i false (some o) L ⟨tm, H, nx, N, lim⟩ K = vops P ty ops [o] ⟨tm, H, b + i * 64, N, some (b + (i + 1) * 64)⟩ (contC P ty ops b c L (some nx) K) := rfl
theorem contC_own {b c : Nat} {L : List Nat} {K : St → Prop} {tm : Nat → VV} {H : Heap} {nx N : Nat} {lim : Option Nat} : contC P ty ops b c L none K ⟨tm, H, nx, N, lim⟩ = vcls P ty ops b c L ⟨tm, H, nx, N, lim⟩ K := rfl
theorem contC_win {b c t : Nat} {L : List Nat} {K : St → Prop} {tm : Nat → VV} {H : Heap} {nx N : Nat} {lim : Option Nat} : contC P ty ops b c L (some t) K ⟨tm, H, nx, N, lim⟩ = vcls P ty ops b c L ⟨tm, H, t, N, none⟩ K := rfl
def vclsA (P : Program) (ty : Ty) (ops : Array Oper) (b c : Nat) : List (List Nat) → St → (St → Prop) → Prop
  | [], _, _ => True
  | L :: R, s, K => vcls P ty ops b c L s K ∧ vclsA P ty ops b c R s K
theorem vclsA_spec {b c : Nat} {K : St → Prop} : ∀ {R : List (List Nat)}, vclsA P ty ops b c R s K → ∀ L ∈ R, vcls P ty ops b c L s K
  | [], _, L, h => by simp at h
  | L0 :: R, h, L, hL => by
    rcases List.mem_cons.1 hL with rfl | hL
    · exact h.1
    · exact vclsA_spec h.2 L hL
theorem vclsA_nil {b c : Nat} {K : St → Prop} : vclsA P ty ops b c [] s K = True := rfl
theorem vclsA_cons {b c : Nat} {L : List Nat} {R : List (List Nat)} {K : St → Prop} : vclsA P ty ops b c (L :: R) s K = (vcls P ty ops b c L s K ∧ vclsA P ty ops b c R s K) := rfl
/-- What must be known of the region, by computation. -/
def clsOK (ops : Array Oper) (c : Nat) (R : List (List Nat)) : Bool := covL ops c ops.size [(Array.replicate ops.size false, R)] && R.all (fun L => decide L.Nodup && L.all (fun k => decide (k < ops.size)) && (List.range ops.size).all fun k => L.contains k) && (match ops[c]? with | some o => plainCall o | none => true)
theorem VWP_cls (hT : TyOK P ty) (hm : P.follows .mixedOrders = true) {id : Nat} {l : List Oper} {Q : Exit → St → Prop} {tm : Nat → VV} {H : Heap} {nx N : Nat} (c : Nat) (R : List (List Nat)) (hok : clsOK l.toArray c R = true)
    (h : vclsA P ty l.toArray nx c R ⟨tm, H, nx + l.length * 64, N, none⟩ (Q .normal)) : VWP P E (.region id l.toArray true) Q ⟨tm, H, nx, N, none⟩ := by
  intro g a w hr
  refine wp_region_any hm ?_
  simp only [clsOK, Bool.and_eq_true] at hok
  obtain ⟨⟨h1, h2⟩, h3⟩ := hok
  have h1 := covL_covK h1 (Array.replicate l.toArray.size false, R) (List.mem_singleton.2 rfl)
  have hall : unl l.toArray.size (Array.replicate l.toArray.size false) = List.range l.toArray.size := by
    refine List.filter_eq_self.2 fun i hi => ?_
    have : i < l.length := by simpa using List.mem_range.1 hi
    simp [this]
  have hun : ∀ T, nx ≤ T → g.sn T = false := fun T hT => hr.fresh T ⟨hT, trivial⟩
  refine anyK hT (b := nx) (n := l.toArray.size) (c := c) rfl (fun o ho => by rw [ho] at h3; exact h3) _ _ R g ⟨tm, H, nx + l.length * 64, N, none⟩ a _ h1 (fun L hL => ?_) rfl (by simp) ?_ (fun i _ _ T t1 _ => hun T (by unfold lo at t1; omega)) (by simp) (fun L hL => vcls_chain L _ (vclsA_spec h L hL))
  · have := List.all_eq_true.1 h2 L hL
    simp only [Bool.and_eq_true, decide_eq_true_eq, List.all_eq_true, List.mem_range, List.contains_eq_mem] at this
    obtain ⟨⟨k1, k2⟩, k3⟩ := this
    refine ⟨k1, fun k => ?_⟩
    rw [hall, List.mem_range]
    exact ⟨k2 k, k3 k⟩
  · exact ⟨hr.size, hr.defers, hr.heap.drew, fun T hT => hr.fresh T ⟨Nat.le_trans (Nat.le_add_right _ _) hT.1, trivial⟩, hr.tmps, hr.pin⟩
end
attribute [go_sem] vcls_nil vcls_cons vclsO_own vclsO_win contC_own contC_win Nat.beq
end Go.Proofs.Ytchkbgekmoileaa

/- The value-level engine, thirty-first part: tokens get new numbers; loops whose tokens have the same numbers in each round. -/
namespace Go.Proofs.Ytchkbgekmoileaa
open Go Go.RowKit
set_option linter.unusedVariables false
set_option linter.unusedSimpArgs false

/-- Nothing like this is a value. -/
def badV : VV := .tup [.tup []]
/-- What a value was called before: token j was the j-th of the list. -/
def renC (L : List Nat) (x : VV) : VV :=
  match x with
  | .rf T n => (match L[T]? with | some a => .rf a n | none => badV)
  | .bp T j => (match L[T]? with | some a => .bp a j | none => badV)
  | .np T i j => (match L[T]? with | some a => .np a i j | none => badV)
  | .bs T j n e => (match L[T]? with | some a => .bs a j n e | none => badV)
  | .int k n => .int k n
  | .bool b => .bool b
  | .str s => .str s
  | .nl e => .nl e
  | .fr e rows => .fr e rows
  | .fp row => .fp row
  | .err b => .err b
  | .any => .any
  | .clo f caps => .clo f (caps.map fun c => match c with
    | .bp T j => (match L[T]? with | some a => .bp a j | none => badV)
    | .fp row => .fp row
    | _ => badV)
  | _ => badV
def renA (L : List Nat) (x : VV) : VV :=
  match x with
  | .agg vs => .agg (vs.map (renC L))
  | x => renC L x
def renV (L : List Nat) (x : VV) : VV :=
  match x with
  | .tup vs => .tup (vs.map (renA L))
  | x => renA L x
def renE (L : List Nat) (x : Ent) : Ent :=
  match x with
  | .box cs => .box (cs.map (renC L))
  | x => x
/-- What lies under a token, by its old name. -/
def renH (L : List Nat) (H : Heap) (p : Nat × Ent) : Prop := match L[p.1]? with
  | some a => H a = renE L p.2 ∧ (match p.2 with | .root _ rows => PurRows rows | _ => True)
  | none => False
/-- What was handed over keeps its numbers. -/
def pinL (m : Nat) (L : List Nat) : Bool := (List.range m).all fun k => match L[k]? with | some a => a == k | none => false

section
variable {P : Program} {E : Env} {g g' : Gh} {s : St} {a : Act} {w w' : World} {ty : Ty} {H : Heap}

/-- The new names of what the world has. -/
def renG (L : List Nat) (g : Gh) : Gh :=
  { hd := fun T p => match L[T]? with | some a => g.hd a p | none => undef
    bx := fun T => match L[T]? with | some a => g.bx a | none => (0, 0)
    own := fun b => match g.own b with
      | some (a, p) => (L.findIdx? (· == a)).map fun T => (T, p)
      | none => none
    ob := fun b o => match g.ob b o with
      | some (a, j) => (L.findIdx? (· == a)).map fun T => (T, j)
      | none => none
    sn := fun T => match L[T]? with | some a => g.sn a | none => false }
theorem find_at {L : List Nat} (hL : L.Nodup) {T a : Nat} (h : L[T]? = some a) : L.findIdx? (· == a) = some T := by
  obtain ⟨hlt, he⟩ := List.getElem?_eq_some_iff.1 h
  rw [List.findIdx?_eq_some_iff_getElem]
  refine ⟨hlt, by simp [he], fun j hj => ?_⟩
  simp only [beq_iff_eq, Bool.not_eq_true, beq_eq_false_iff_ne]
  intro hh
  have := (List.getElem_inj (h₀ := by omega) (h₁ := hlt) hL).1 (hh.trans he.symm)
  omega
/-- The tokens of the new heap lie in the list, and what lies under them lay under the old ones. -/
def HRen (L : List Nat) (H H' : Heap) : Prop := ∀ T, (H' T = .dead) ∨ ∃ a, L[T]? = some a ∧ H a = renE L (H' T) ∧ (match H' T with | .root _ rows => PurRows rows | _ => True)
theorem ren_isRoot {L : List Nat} {x : Ent} : (renE L x).isRoot = x.isRoot := by cases x <;> rfl
theorem ren_live {L : List Nat} {x : Ent} : (renE L x).live = x.live := by cases x <;> rfl
theorem hren_root {L : List Nat} {H H' : Heap} (h : HRen L H H') {T a : Nat} (ha : L[T]? = some a) (hr : (H' T).isRoot = true) : H a = H' T := by
  rcases h T with h | ⟨b, hb, h1, _⟩
  · rw [h] at hr; cases hr
  · rw [ha] at hb
    cases hb
    rw [h1]
    cases hx : H' T with
    | box cs => rw [hx] at hr; cases hr
    | _ => rfl
theorem hren_live {L : List Nat} {H H' : Heap} (h : HRen L H H') {T a : Nat} (ha : L[T]? = some a) (hr : (H' T).live = true) : (H a).live = true := by
  rcases h T with h | ⟨b, hb, h1, _⟩
  · rw [h] at hr; cases hr
  · rw [ha] at hb
    cases hb
    rw [h1, ren_live]; exact hr
theorem bad_no {v : Value} (h : CRel P E H g badV v) : False := h
theorem renC_rel {L : List Nat} {H H' : Heap} (hh : HRen L H H') {x : VV} {v : Value} (h : CRel P E H g (renC L x) v) : CRel P E H' (renG L g) x v := by
  have sn : ∀ {T a : Nat}, L[T]? = some a → g.sn a = true → (renG L g).sn T = true := fun ha hs => by simp only [renG, ha]; exact hs
  have bx : ∀ {T a : Nat}, L[T]? = some a → (renG L g).bx T = g.bx a := fun ha => by simp only [renG, ha]
  have hd : ∀ {T a : Nat}, L[T]? = some a → ∀ p, (renG L g).hd T p = g.hd a p := fun ha p => by simp only [renG, ha]
  cases x with
  | rf T n =>
    simp only [renC] at h
    split at h
    · rename_i a ha
      obtain ⟨h1, h2, h3⟩ := h
      refine ⟨sn ha h1, h2, fun hr => ?_⟩
      rw [hd ha]
      exact h3 (by rw [hren_root hh ha hr]; exact hr)
    · exact False.elim h
  | bp T j =>
    simp only [renC] at h
    split at h
    · rename_i a ha
      obtain ⟨h1, h2, h3⟩ := h
      refine ⟨sn ha h1, h2, fun hr => ?_⟩
      rw [bx ha]
      exact h3 (hren_live hh ha hr)
    · exact False.elim h
  | np T i j =>
    simp only [renC] at h
    split at h
    · rename_i a ha
      obtain ⟨h1, h2, h3⟩ := h
      refine ⟨sn ha h1, h2, fun e rows hr => ?_⟩
      rw [hd ha]
      exact h3 e rows (by rw [hren_root hh ha (by rw [hr]; rfl)]; exact hr)
    · exact False.elim h
  | bs T j n e =>
    simp only [renC] at h
    split at h
    · rename_i a ha
      obtain ⟨h1, h2, h3, h4⟩ := h
      refine ⟨sn ha h1, h2, h3, fun hr => ?_⟩
      rw [bx ha]
      exact h4 (hren_live hh ha hr)
    · exact False.elim h
  | clo f caps =>
    obtain ⟨cs, h1, h2, h3⟩ := h
    simp only [List.length_map] at h2
    refine ⟨cs, h1, h2, fun j c u hc hu => ?_⟩
    have h4 := h3 j _ u (by rw [List.getElem?_map, hc]; rfl) hu
    cases c with
    | bp T j =>
      simp only at h4
      split at h4
      · rename_i a ha
        obtain ⟨k1, k2, k3⟩ := h4
        refine ⟨sn ha k1, k2, fun hr => ?_⟩
        rw [bx ha]
        exact k3 (hren_live hh ha hr)
      · exact h4.elim
    | fp row => exact h4
    | _ => exact h4.elim
  | agg vs => exact False.elim h
  | tup vs => exact False.elim h
  | _ => exact h
theorem renA_rel {L : List Nat} {H H' : Heap} (hh : HRen L H H') {x : VV} {v : Value} (h : ARel P E H g (renA L x) v) : ARel P E H' (renG L g) x v := by
  cases x with
  | agg vs =>
    obtain ⟨cs, h1, h2, h3⟩ := h
    simp only [List.length_map] at h2
    refine ⟨cs, h1, h2, fun j c u hc hu => ?_⟩
    exact renC_rel hh (h3 j _ u (by rw [List.getElem?_map, hc]; rfl) hu)
  | rf T n =>
    cases hL : L[T]? with
    | none => simp only [renA, renC, hL] at h; exact False.elim h
    | some a => exact renC_rel (P := P) (E := E) (g := g) (H := H) (x := .rf T n) hh (by simp only [renA, renC, hL] at h ⊢; exact h)
  | bp T j =>
    cases hL : L[T]? with
    | none => simp only [renA, renC, hL] at h; exact False.elim h
    | some a => exact renC_rel (P := P) (E := E) (g := g) (H := H) (x := .bp T j) hh (by simp only [renA, renC, hL] at h ⊢; exact h)
  | np T i j =>
    cases hL : L[T]? with
    | none => simp only [renA, renC, hL] at h; exact False.elim h
    | some a => exact renC_rel (P := P) (E := E) (g := g) (H := H) (x := .np T i j) hh (by simp only [renA, renC, hL] at h ⊢; exact h)
  | bs T j n e =>
    cases hL : L[T]? with
    | none => simp only [renA, renC, hL] at h; exact False.elim h
    | some a => exact renC_rel (P := P) (E := E) (g := g) (H := H) (x := .bs T j n e) hh (by simp only [renA, renC, hL] at h ⊢; exact h)
  | int k n => exact renC_rel (P := P) (E := E) (g := g) (H := H) (x := .int k n) hh h
  | bool b => exact renC_rel (P := P) (E := E) (g := g) (H := H) (x := .bool b) hh h
  | str s => exact renC_rel (P := P) (E := E) (g := g) (H := H) (x := .str s) hh h
  | nl e => exact renC_rel (P := P) (E := E) (g := g) (H := H) (x := .nl e) hh h
  | fr e rows => exact renC_rel (P := P) (E := E) (g := g) (H := H) (x := .fr e rows) hh h
  | fp row => exact renC_rel (P := P) (E := E) (g := g) (H := H) (x := .fp row) hh h
  | err b => exact renC_rel (P := P) (E := E) (g := g) (H := H) (x := .err b) hh h
  | any => trivial
  | clo f caps => exact renC_rel (P := P) (E := E) (g := g) (H := H) (x := .clo f caps) hh h
  | tup vs => exact False.elim h
theorem renV_rel {L : List Nat} {H H' : Heap} (hh : HRen L H H') {x : VV} {v : Value} (h : VRel P E H g (renV L x) v) : VRel P E H' (renG L g) x v := by
  have bad : ∀ {v : Value}, VRel P E H g badV v → False := fun {v} h => by
    obtain ⟨cs, h1, h2, h3⟩ := h
    cases cs with
    | nil => simp at h2
    | cons c cs => exact False.elim (h3 0 (.tup []) c rfl rfl)
  cases x with
  | tup vs =>
    obtain ⟨cs, h1, h2, h3⟩ := h
    simp only [List.length_map] at h2
    refine ⟨cs, h1, h2, fun j c u hc hu => ?_⟩
    exact renA_rel hh (h3 j _ u (by rw [List.getElem?_map, hc]; rfl) hu)
  | rf T n =>
    cases hL : L[T]? with
    | none => simp only [renV, renA, renC, hL] at h; exact (bad h).elim
    | some a => exact renA_rel (P := P) (E := E) (g := g) (H := H) (x := .rf T n) hh (by simp only [renV, renA, renC, hL] at h ⊢; exact h)
  | bp T j =>
    cases hL : L[T]? with
    | none => simp only [renV, renA, renC, hL] at h; exact (bad h).elim
    | some a => exact renA_rel (P := P) (E := E) (g := g) (H := H) (x := .bp T j) hh (by simp only [renV, renA, renC, hL] at h ⊢; exact h)
  | np T i j =>
    cases hL : L[T]? with
    | none => simp only [renV, renA, renC, hL] at h; exact (bad h).elim
    | some a => exact renA_rel (P := P) (E := E) (g := g) (H := H) (x := .np T i j) hh (by simp only [renV, renA, renC, hL] at h ⊢; exact h)
  | bs T j n e =>
    cases hL : L[T]? with
    | none => simp only [renV, renA, renC, hL] at h; exact (bad h).elim
    | some a => exact renA_rel (P := P) (E := E) (g := g) (H := H) (x := .bs T j n e) hh (by simp only [renV, renA, renC, hL] at h ⊢; exact h)
  | int k n => exact renA_rel (P := P) (E := E) (g := g) (H := H) (x := .int k n) hh h
  | bool b => exact renA_rel (P := P) (E := E) (g := g) (H := H) (x := .bool b) hh h
  | str s => exact renA_rel (P := P) (E := E) (g := g) (H := H) (x := .str s) hh h
  | nl e => exact renA_rel (P := P) (E := E) (g := g) (H := H) (x := .nl e) hh h
  | fr e rows => exact renA_rel (P := P) (E := E) (g := g) (H := H) (x := .fr e rows) hh h
  | fp row => exact renA_rel (P := P) (E := E) (g := g) (H := H) (x := .fp row) hh h
  | err b => exact renA_rel (P := P) (E := E) (g := g) (H := H) (x := .err b) hh h
  | any => trivial
  | clo f caps => exact renA_rel (P := P) (E := E) (g := g) (H := H) (x := .clo f caps) hh h
  | agg vs => exact renA_rel (P := P) (E := E) (g := g) (H := H) (x := .agg vs) hh h

theorem ren_hrel {L : List Nat} (hL : L.Nodup) {H H' : Heap} (hh : HRen L H H') (h : HRel P E g H w) : HRel P E (renG L g) H' w := by
  refine ⟨h.frm, fun T e rows hT p e' rows' hp => ?_, fun T cs hT => ?_, fun T hT => ?_⟩
  · rcases hh T with h0 | ⟨a, ha, h1, h2⟩
    · rw [h0] at hT; cases hT
    · rw [hT] at h1 h2
      have hpur : PurRows rows' := pur_at p (.list e rows) (.list e rows h2) e' rows' hp
      have hd : ∀ p, (renG L g).hd T p = g.hd a p := fun p => by simp only [renG, ha]
      rcases h.node a e rows h1 p e' rows' hp with ⟨k1, k2⟩ | ⟨b, cap, cur, k1, k2, k3, k4, k5, k6, k7, k8⟩
      · exact .inl ⟨by rw [hd]; exact k1, k2⟩
      · refine .inr ⟨b, cap, cur, by rw [hd]; exact k1, ?_, k3, k4, k5, k6, k7, fun i r hr => ⟨(k8 i r hr).1, fun j c hc => ?_⟩⟩
        · simp only [renG, k2, find_at hL ha, Option.map_some]
        · obtain ⟨u, u1, u2⟩ := (k8 i r hr).2 j c hc
          refine ⟨u, u1, ?_⟩
          rw [hd]
          have hpc := hpur r (List.mem_of_getElem? hr) c (List.mem_of_getElem? hc)
          cases hpc <;> exact u2
  · rcases hh T with h0 | ⟨a, ha, h1, h2⟩
    · rw [h0] at hT; cases hT
    · rw [hT] at h1
      obtain ⟨cur, e, k1, k2, k3⟩ := h.box a (cs.map (renC L)) h1
      have hb : (renG L g).bx T = g.bx a := by simp only [renG, ha]
      refine ⟨cur, e, by rw [hb]; exact k1, ?_, fun j c hc => ?_⟩
      · rw [hb]
        simp only [renG, k2]
      · obtain ⟨m1, m2, u, m3, m4⟩ := k3 j (renC L c) (by rw [List.getElem?_map, hc]; rfl)
        rw [hb]
        refine ⟨?_, m2, u, m3, renC_rel hh m4⟩
        simp only [renG, m1, find_at hL ha, Option.map_some]
  · rcases hh T with h0 | ⟨a, ha, h1, h2⟩
    · rw [h0] at hT; cases hT
    · have : (H a).live = true := by rw [h1, ren_live]; exact hT
      simp only [renG, ha]
      exact h.seen a this

theorem hpL_ren {L : List Nat} {H : Heap} : ∀ {hl : List (Nat × Ent)}, (∀ p ∈ hl, renH L H p) → HRen L H (hpL hl)
  | [], _, T => .inl rfl
  | (u, e) :: hl, h, T => by
    simp only [hpL]
    split
    · rename_i hu
      subst hu
      have h0 := h (T, e) (List.mem_cons_self ..)
      unfold renH at h0
      split at h0
      · rename_i a ha
        exact .inr ⟨a, ha, h0⟩
      · exact h0.elim
    · exact hpL_ren (fun p hp => h p (List.mem_cons_of_mem _ hp)) T
/-- Tokens get new numbers; what is not named is forgotten. -/
theorem rel_ren {m : Nat} (hE : PinLe E m) (L : List Nat) (tl : List (Nat × VV)) (hl : List (Nat × Ent)) (hL : L.Nodup) (hm : pinL m L = true) (h1 : ∀ p ∈ tl, s.tm p.1 = renV L p.2) (h2 : ∀ p ∈ hl, renH L s.H p) (hr : Rel P E g s a w) :
    Rel P E (renG L g) ⟨tmL tl, hpL hl, L.length, s.N, none⟩ a w := by
  have hh := hpL_ren h2
  refine ⟨hr.size, hr.defers, ren_hrel hL hh hr.heap, fun T hT => ?_, fun t => ?_, ?_⟩
  · have : L[T]? = none := List.getElem?_eq_none hT.1
    simp only [renG, this]
  · have key : ∀ tl : List (Nat × VV), (∀ p ∈ tl, s.tm p.1 = renV L p.2) → tmL tl t = .any ∨ s.tm t = renV L (tmL tl t) := by
      intro tl
      induction tl with
      | nil => intro _; exact .inl rfl
      | cons q tl ih =>
        intro h
        obtain ⟨u, v⟩ := q
        simp only [tmL]
        split
        · rename_i hu
          right
          rw [hu]
          exact h (u, v) (List.mem_cons_self ..)
        · exact ih fun p hp => h p (List.mem_cons_of_mem _ hp)
    rcases key tl h1 with h | h
    · show VRel P E _ _ (tmL tl t) _
      rw [h]; trivial
    · refine renV_rel hh ?_
      rw [← h]
      exact hr.tmps t
  · refine hE g s.H _ _ (fun T hT => ?_) hr.pin
    have ha : L[T]? = some T := by
      simp only [pinL, List.all_eq_true, List.mem_range] at hm
      have := hm T hT
      split at this
      · rename_i a ha
        rw [ha, beq_iff_eq.1 this]
      · cases this
    refine ⟨fun h => by simp only [renG, ha]; exact h, fun e rows' h => ?_, fun h => hren_live hh ha h, by simp only [renG, ha], by simp only [renG, ha]⟩
    exact ⟨rows', by rw [hren_root hh ha (by have h' : hpL hl T = .root e rows' := h; rw [h']; rfl)]; exact h⟩
theorem VWP_ren {c : Code} {Q : Exit → St → Prop} {m : Nat} (hE : PinLe E m) (L : List Nat) (tl : List (Nat × VV)) (hl : List (Nat × Ent)) (hL : L.Nodup) (hm : pinL m L = true) (h1 : ∀ p ∈ tl, s.tm p.1 = renV L p.2) (h2 : ∀ p ∈ hl, renH L s.H p)
    (h : VWP P E c Q ⟨tmL tl, hpL hl, L.length, s.N, none⟩) : VWP P E c Q s := fun g a w hr => h _ a w (rel_ren hE L tl hl hL hm h1 h2 hr)

variable {tm : Nat → VV} {nx N : Nat}
/-- A round of a loop has gone well; the tokens that it knows get their numbers back. -/
def NextN {X : Type} (tl : X → List (Nat × VV)) (hl : X → List (Nat × Ent)) (μ : X → Nat) (J : X → Prop) (m K N : Nat) (x : X) (s' : St) : Prop :=
  ∃ ms H', merges ms s'.H = some H' ∧ ∃ L x', L.length = K ∧ L.Nodup ∧ pinL m L = true ∧ J x' ∧ μ x' < μ x ∧ (∀ p ∈ tl x', s'.tm p.1 = renV L p.2) ∧ (∀ p ∈ hl x', renH L H' p) ∧ s'.N = N
theorem nextN {X : Type} {tl : X → List (Nat × VV)} {hl : X → List (Nat × Ent)} {μ : X → Nat} {J : X → Prop} {m K : Nat} {x : X} {lim : Option Nat} (ms : List (Nat × Nat × Nat)) {H' : Heap} (h0 : merges ms H = some H') (L : List Nat) (x' : X) (hK : L.length = K) (hL : L.Nodup) (hm : pinL m L = true) (h1 : J x') (h2 : μ x' < μ x) (h3 : ∀ p ∈ tl x', tm p.1 = renV L p.2) (h4 : ∀ p ∈ hl x', renH L H' p) :
    NextN tl hl μ J m K N x ⟨tm, H, nx, N, lim⟩ := ⟨ms, H', h0, L, x', hK, hL, hm, h1, h2, h3, h4, rfl⟩
theorem wNn {X : Type} {tl : X → List (Nat × VV)} {hl : X → List (Nat × Ent)} {μ : X → Nat} {J : X → Prop} {m K N : Nat} {x : X} {s : St} (h : NextN tl hl μ J m K N x s) : NextN tl hl μ J m K N x s := h
theorem VWP_loopN {X : Type} {m : Nat} (hE : PinLe E m) (tl : X → List (Nat × VV)) (hl : X → List (Nat × Ent)) (μ : X → Nat) (J : X → Prop) (L0 : List Nat) (x0 : X) {c : Code} {Q : Exit → St → Prop} (hJ : J x0) (hL : L0.Nodup) (hm : pinL m L0 = true) (h1 : ∀ p ∈ tl x0, tm p.1 = renV L0 p.2) (h2 : ∀ p ∈ hl x0, renH L0 H p)
    (round : ∀ x, J x → VWP P E c (thenQ (NextN tl hl μ J m L0.length N x) Q) ⟨tmL (tl x), hpL (hl x), L0.length, N, none⟩) :
    VWP P E (.loop c) Q ⟨tm, H, nx, N, none⟩ := by
  refine VWP_ren hE L0 (tl x0) (hl x0) hL hm h1 h2 ?_
  refine VWP_loop (fun n s => ∃ x, J x ∧ n = μ x ∧ s = ⟨tmL (tl x), hpL (hl x), L0.length, N, none⟩) (μ x0) ⟨x0, hJ, rfl, rfl⟩ ?_
  rintro n s ⟨x, k1, rfl, rfl⟩
  refine VWP_post (fun e s he => ?_) (round x k1)
  cases e with
  | normal =>
    obtain ⟨ms, H', j0, L, x', j1, j2, j3, j4, j5, j6, j7, j8⟩ := he
    refine ⟨⟨tmL (tl x'), hpL (hl x'), L0.length, N, none⟩, fun g a w hr => ?_, μ x', j5, x', j4, rfl, rfl⟩
    obtain ⟨g1, hg1, _⟩ := rel_merges hr j0
    have := rel_ren (s := { s with H := H' }) hE L (tl x') (hl x') j2 j3 j6 j7 hg1
    simp only [j1, j8] at this
    exact ⟨_, this⟩
  | _ => exact ⟨s, fun g a w hr => ⟨g, hr⟩, he⟩
end
theorem renH_at {L : List Nat} {H : Heap} {T : Nat} {e : Ent} : renH L H (T, e) = (match L[T]? with
  | some a => H a = renE L e ∧ (match e with | .root _ rows => PurRows rows | _ => True)
  | none => False) := rfl
end Go.Proofs.Ytchkbgekmoileaa

/- The value-level engine, thirty-second part: rows that are written one after the other. -/
namespace Go.Proofs.Ytchkbgekmoileaa
open Go Go.RowKit
set_option linter.unusedVariables false
set_option linter.unusedSimpArgs false

/-- The first rows are new, the others as they were. -/
def mixL (new old : List (List PT)) (i : Nat) : List (List PT) := new.take i ++ old.drop i
theorem mixL_zero (new old : List (List PT)) : mixL new old 0 = old := by simp [mixL]
theorem mixL_all {new old : List (List PT)} {n : Nat} (h : new.length = n) (h2 : old.length = n) : mixL new old n = new := by
  unfold mixL
  rw [List.take_of_length_le (by omega), List.drop_eq_nil_of_le (by omega), List.append_nil]
theorem mixL_len {new old : List (List PT)} {n : Nat} (h : new.length = n) (h2 : old.length = n) {i : Nat} (hi : i ≤ n) : (mixL new old i).length = n := by
  simp only [mixL, List.length_append, List.length_take, List.length_drop]
  omega
theorem mixL_at {new old : List (List PT)} {n : Nat} (h : new.length = n) (h2 : old.length = n) {i : Nat} (hi : i < n) {r : List PT} (hr : old[i]? = some r) : (mixL new old i)[i]? = some r := by
  unfold mixL
  rw [List.getElem?_append_right (by rw [List.length_take]; omega), List.length_take, List.getElem?_drop, ← hr]
  congr 1
  omega
theorem mixL_set {new old : List (List PT)} {n : Nat} (h : new.length = n) (h2 : old.length = n) {i : Nat} {r : List PT} (hr : new[i]? = some r) : (mixL new old i).set i r = mixL new old (i + 1) := by
  have hi := (List.getElem?_eq_some_iff.1 hr).1
  refine List.ext_getElem? fun j => ?_
  unfold mixL
  rw [List.getElem?_set]
  by_cases hj : i = j
  · subst hj
    rw [if_pos rfl, if_pos (by simp only [List.length_append, List.length_take, List.length_drop]; omega), List.getElem?_append_left (by rw [List.length_take]; omega), List.getElem?_take]
    rw [if_pos (by omega), hr]
  · rw [if_neg hj]
    rcases Nat.lt_or_ge j i with h3 | h3
    · rw [List.getElem?_append_left (by rw [List.length_take]; omega), List.getElem?_append_left (by rw [List.length_take]; omega), List.getElem?_take, List.getElem?_take, if_pos h3, if_pos (by omega)]
    · rw [List.getElem?_append_right (by rw [List.length_take]; omega), List.getElem?_append_right (by rw [List.length_take]; omega), List.length_take, List.length_take, List.getElem?_drop, List.getElem?_drop]
      congr 1
      omega
theorem mixL_pur {new old : List (List PT)} (h : PurRows new) (h2 : PurRows old) (i : Nat) : PurRows (mixL new old i) := by
  intro r hr
  rcases List.mem_append.1 hr with hr | hr
  · exact h r (List.mem_of_mem_take hr)
  · exact h2 r (List.mem_of_mem_drop hr)
theorem rep_pur {n : Nat} {r : List PT} (h : ∀ c ∈ r, PT.Pur c) : PurRows (List.replicate n r) := by
  intro x hx
  rw [List.eq_of_mem_replicate hx]
  exact h
end Go.Proofs.Ytchkbgekmoileaa
