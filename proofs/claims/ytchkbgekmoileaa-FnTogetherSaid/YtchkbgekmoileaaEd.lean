/- The value-level engine, third bundle: calls, control, regions of open order. -/
import Derived.Test.YtchkbgekmoileaaEb
import Derived.LoopN
import Derived.Conc.Own4
import Derived.Orders
import Derived.Laws.BitsLemmas
/- The value-level engine, sixteenth part: calls, regions in order, and the forms of control. -/
namespace Go.Proofs.Ytchkbgekmoileaa
open Go Go.RowKit
set_option linter.unusedVariables false
set_option linter.unusedSimpArgs false

def vwant (ops : Array Oper) (s : St) (o : Oper) : Option Bool :=
  match o.guard with
  | none => some true
  | some (j, want) => match (ops[j]?).bind (·.dst) with
    | none => some false
    | some t => match s.tm t with
      | .bool b => some (b == want)
      | .tup [] => some false
      | _ => none

/-- The function that is called, with what it has caught. -/
def fcall (s : St) (o : Oper) : Option (FuncId × List Operand × List TypeId × List VV) :=
  match o.op with
  | .call c => match c.callee with
    | .value (.func f) => some (f, c.args.toList, c.argTypes.toList, [])
    | .value (.tmp t) => match s.tm t with
      | .clo f caps => if caps.all capOk = true then some (f, c.args.toList, c.argTypes.toList, caps) else none
      | _ => none
    | _ => none
  | _ => none

/-- What is handed to a call. -/
def handed (ty : Ty) (s : St) : List Operand → List TypeId → List VV
  | x :: xs, t :: ts => retype ty t (ev s x) :: handed ty s xs ts
  | x :: xs, [] => ev s x :: handed ty s xs []
  | [], _ => []

/-- One operation, and what holds behind it. -/
def vop (P : Program) (ty : Ty) (ops : Array Oper) (o : Oper) (s : St) (K : St → Prop) : Prop :=
  match vwant ops s o with
  | some true => match fcall s o with
    | some (f, xs, ts, caps) => ((∀ x ∈ handed ty s xs ts ++ caps, frzOk s.H x) ∧ ∃ v l, SatP P f ((handed ty s xs ts ++ caps).map (frzA s.H)) v l ∧ s.room l.length = true ∧ ∃ s', (s.imp l).putd o.dst (shV s.nx v) = some s' ∧ K s') ∨ OwnCall P f (handed ty s xs ts ++ caps) s o.dst K ∨ SemCall P f (handed ty s xs ts ++ caps) s o.dst K
    | none => ∃ s', vexec ty s o = some s' ∧ K s'
  | some false => ∃ s', s.putd o.dst (.tup []) = some s' ∧ K s'
  | none => False

def vops (P : Program) (ty : Ty) (ops : Array Oper) : List Oper → St → (St → Prop) → Prop
  | [], s, K => K s
  | o :: rest, s, K => vop P ty ops o s fun s' => vops P ty ops rest s' K

/-- From a state on the values to the machine's. -/
def lift (P : Program) (E : Env) (Q : Exit → St → Prop) : Exit → Act → World → Prop
  | .normal, a, w => ∃ g s, Rel P E g s a w ∧ Q .normal s
  | .exit i, a, w => ∃ g s, Rel P E g s a w ∧ Q (.exit i) s
  | .ret, a, w => ∃ g s, Rel P E g s a w ∧ Q .ret s
  | _, _, _ => False

def VWP (P : Program) (E : Env) (c : Code) (Q : Exit → St → Prop) (s : St) : Prop :=
  ∀ g a w, Rel P E g s a w → c.wp P (lift P E Q) a w

section
variable {P : Program} {E : Env} {g g' : Gh} {s : St} {a : Act} {w w' : World} {ty : Ty} {ops : Array Oper}

theorem vwant_sound (h : Rel P E g s a w) {o : Oper} {b : Bool} (hw : vwant ops s o = some b) : Region.wanted o (yielded ops a.tmps) = b := by
  unfold vwant at hw
  unfold Region.wanted
  split at hw
  · rename_i hg
    rw [hg]
    simpa using hw
  · rename_i j want hg
    rw [hg]
    show (yielded ops a.tmps j == some want) = b
    unfold yielded
    split at hw
    · rename_i hd
      rw [hd]
      simp only [Option.some.injEq] at hw
      subst hw
      rfl
    · rename_i t hd
      rw [hd]
      have ht := h.tmps t
      split at hw
      · rename_i b' hb
        rw [hb] at ht
        have ht : a.tmps.getD t undef = .bool b' := ht
        simp only [Option.some.injEq] at hw
        subst hw
        have : a.tmps[t]? = some (.bool b') := by
          rw [Array.getD_eq_getD_getElem?] at ht
          cases hx : a.tmps[t]? with
          | none => rw [hx] at ht; cases ht
          | some u => rw [hx] at ht; simp only [Option.getD_some] at ht; rw [ht]
        simp [this]
      · rename_i hb
        rw [hb] at ht
        obtain ⟨cs, h1, h2, _⟩ := ht
        have : cs = [] := by simpa using h2
        subst this
        simp only [Option.some.injEq] at hw
        subst hw
        rw [Array.getD_eq_getD_getElem?] at h1
        cases hx : a.tmps[t]? with
        | none => simp [hx]
        | some u =>
          rw [hx] at h1
          simp only [Option.getD_some] at h1
          subst h1
          simp [hx]
      · cases hw

theorem undef_rel {H : Heap} : VRel P E H g (.tup []) undef := ⟨[], rfl, rfl, fun j c u hc => by simp at hc⟩

theorem handed_rel (h : Rel P E g s a w) : ∀ (xs : List Operand) (ts : List TypeId), (handed ty s xs ts).length = xs.length ∧
    ∀ (j : Nat) (x : VV) (u : Value), (handed ty s xs ts)[j]? = some x → (xs.map a.eval)[j]? = some u → VRel P E s.H g x u
  | [], ts => ⟨by cases ts <;> rfl, fun j x u hx hu => by simp at hu⟩
  | x :: xs, [] => by
    obtain ⟨h1, h2⟩ := handed_rel h xs []
    refine ⟨by simp [handed, h1], fun j y u hy hu => ?_⟩
    cases j with
    | zero =>
      simp only [handed, List.getElem?_cons_zero, List.map_cons, Option.some.injEq] at hy hu
      subst hy; subst hu
      exact ev_rel h x
    | succ j => exact h2 j y u (by simpa [handed] using hy) (by simpa using hu)
  | x :: xs, t :: ts => by
    obtain ⟨h1, h2⟩ := handed_rel h xs ts
    refine ⟨by simp [handed, h1], fun j y u hy hu => ?_⟩
    cases j with
    | zero =>
      simp only [handed, List.getElem?_cons_zero, List.map_cons, Option.some.injEq] at hy hu
      subst hy; subst hu
      exact retype_rel t (ev_rel h x)
    | succ j => exact h2 j y u (by simpa [handed] using hy) (by simpa using hu)

theorem putd_nx {s s' : St} {d : Option Nat} {x : VV} (h : s.putd d x = some s') : s'.nx = s.nx ∧ s'.H = s.H ∧ s'.N = s.N ∧ s'.lim = s.lim := by
  cases d with
  | none => simp only [St.putd, Option.some.injEq] at h; subst h; exact ⟨rfl, rfl, rfl, rfl⟩
  | some d =>
    simp only [St.putd] at h
    split at h
    · simp only [Option.some.injEq] at h; subst h; exact ⟨rfl, rfl, rfl, rfl⟩
    · cases h

theorem fcall_spec {s : St} {o : Oper} {f : FuncId} {xs : List Operand} {ts : List TypeId} {caps : List VV} (h : fcall s o = some (f, xs, ts, caps)) :
    (caps = [] ∧ o.op = .call { callee := .value (.func f), args := xs.toArray, argTypes := ts.toArray }) ∨
    ∃ t, s.tm t = .clo f caps ∧ caps.all capOk = true ∧ o.op = .call { callee := .value (.tmp t), args := xs.toArray, argTypes := ts.toArray } := by
  unfold fcall at h
  split at h
  · rename_i c ho
    split at h
    · rename_i f' hc
      simp only [Option.some.injEq, Prod.mk.injEq] at h
      obtain ⟨rfl, rfl, rfl, rfl⟩ := h
      refine .inl ⟨rfl, ?_⟩
      rw [ho]
      cases c
      simp only at hc
      subst hc
      simp
    · rename_i t hc
      split at h
      · rename_i f' caps' ht
        split at h
        · rename_i hcap
          simp only [Option.some.injEq, Prod.mk.injEq] at h
          obtain ⟨rfl, rfl, rfl, rfl⟩ := h
          refine .inr ⟨t, ht, hcap, ?_⟩
          rw [ho]
          cases c
          simp only at hc
          subst hc
          simp
        · cases h
      · cases h
    · cases h
  · cases h

theorem run_call_clo {o : Oper} {t : Nat} {f : FuncId} {fn : Func} {args : Array Operand} {ats : Array TypeId} {cs : List Value} (hop : o.op = .call { callee := .value (.tmp t), args, argTypes := ats }) (hv : a.eval (.tmp t) = .func (.func f) #[] cs.toArray)
    (hf : P.funcs[f]? = some fn) (hname : (fn.name == "runtime.NumGoroutine") = false) (hb : fn.body.isNone = false) : (execOp a.eval o).run P w = .ok (.enter f (args.map a.eval ++ cs.toArray)) w := by
  have h1 : ¬ fn.name = "runtime.NumGoroutine" := by simpa using hname
  have h2 : ¬ fn.body = none := by cases hx : fn.body <;> simp_all
  unfold execOp
  simp [hop, resolve, hv, Deferred.ofValue, invoke, callFunc, hf, h1, h2]

/-- One operation on the machine. -/
theorem vop_sound (hT : TyOK P ty) (h : Rel P E g s a w) {o : Oper} {K : St → Prop} (hv : vop P ty ops o s K) {Kp : Act → World → Prop} {Q : Exit → Act → World → Prop}
    (hK : ∀ g' s' a' w', K s' → Rel P E g' s' a' w' → (∀ T, (s.nx ≤ T → s'.nx ≤ T) → g'.sn T = g.sn T) → Kp a' w') :
    if Region.wanted o (yielded ops a.tmps) then o.wp P a w Kp Q ∨ (o.asks P a w ∧ LetsOut Q) else Kp (a.put o.dst undef) w := by
  unfold vop at hv
  split at hv
  · rename_i hw
    rw [vwant_sound h hw, if_pos rfl]
    refine .inl ?_
    unfold Oper.wp
    split at hv
    · rename_i f xs ts caps hf
      obtain ⟨hlen, hargs⟩ := handed_rel (ty := ty) h xs ts
      have hcs : ∀ fn, P.funcs[f]? = some fn → (fn.name == "runtime.NumGoroutine") = false → fn.body.isNone = false → ∃ cs : List Value, cs.length = caps.length ∧ (∀ (j : Nat) (c : VV) (u : Value), caps[j]? = some c → cs[j]? = some u → VRel P E s.H g c u) ∧
          (execOp a.eval o).run P w = .ok (.enter f (xs.map a.eval ++ cs).toArray) w := by
        intro fn hfn hname hbody
        rcases fcall_spec hf with ⟨rfl, hop⟩ | ⟨t, ht, _, hop⟩
        · refine ⟨[], rfl, fun j c u hc => by simp at hc, ?_⟩
          rw [Conc.run_call_body hop hfn hname hbody]
          simp
        · have hr := h.tmps t
          rw [ht] at hr
          obtain ⟨cs, h1, h2, h3⟩ := hr
          refine ⟨cs, h2, fun j c u hc hu => ?_, ?_⟩
          · have := h3 j c u hc hu
            cases c <;> first | exact this | exact this.elim
          · rw [run_call_clo hop (cs := cs) h1 hfn hname hbody]
            simp
      have hall : ∀ cs : List Value, cs.length = caps.length → (∀ (j : Nat) (c : VV) (u : Value), caps[j]? = some c → cs[j]? = some u → VRel P E s.H g c u) →
          ∀ (j : Nat) (y : VV) (u : Value), (handed ty s xs ts ++ caps)[j]? = some y → (xs.map a.eval ++ cs)[j]? = some u → VRel P E s.H g y u := by
        intro cs hcl hcr j y u hy hu
        rw [List.getElem?_append] at hy
        split at hy
        · rename_i hj
          refine hargs j y u hy ?_
          rwa [List.getElem?_append_left (by simpa [hlen] using hj)] at hu
        · rename_i hj
          refine hcr _ y u hy ?_
          rw [List.getElem?_append_right (by simpa [hlen] using hj)] at hu
          simpa [hlen] using hu
      rcases hv with ⟨hok, v, l, hS, hroom, s', hput, hk⟩ | ⟨hlim, σ, v, O, hn, hok1, hok2, hS, hroom, s', hput, hk⟩ | ⟨hlim, H', k, v, hS, s', hput, hk⟩
      · obtain ⟨fn, hfn, hname, hbody⟩ := hS.fn
        obtain ⟨cs, hcl, hcr, hrunE⟩ := hcs fn hfn hname hbody
        rw [hrunE]
        simp only [Oper.upon_enter]
        have hrun := hS.run w (xs.map a.eval ++ cs) (by simp [hlen, hcl]) (fun j x u hx hu => by
          simp only [List.getElem?_map, Option.map_eq_some_iff] at hx
          obtain ⟨y, hy, rfl⟩ := hx
          exact frz_rel h.heap (hall cs hcl hcr j y u hy hu) (hok y (List.mem_of_getElem? hy)))
        refine hrun.mono fun e w' he => ?_
        obtain ⟨val, g1, rfl, h1, h2, h3⟩ := he
        obtain ⟨g2, k1, k2, k3, k4⟩ := rel_import h hroom h1 h2 hS.pur hS.out h3
        obtain ⟨k5, k6, k7⟩ := putd_rel k1 k4 hput
        exact hK g2 s' _ w' hk k5 (fun T hT => k3 T (fun hh => by have := hT hh; rw [k7] at this; exact this))
      · obtain ⟨fn, hfn, hname, hbody⟩ := hS.fn
        obtain ⟨cs, hcl, hcr, hrunE⟩ := hcs fn hfn hname hbody
        rw [hrunE]
        simp only [Oper.upon_enter]
        have hrun := hS.run (callEnv σ s.H g w) (g.call σ) w (xs.map a.eval ++ cs) rfl (hrel_call h.heap hn hok1) (fun T hT => by
            have : ¬ T < σ.length := by simpa using hT
            simp [Gh.call, this]) (by simp [hlen, hcl]) (fun j x u hx hu => by
          simp only [List.getElem?_map, Option.map_eq_some_iff] at hx
          obtain ⟨y, hy, rfl⟩ := hx
          exact viewA_rel h.heap (hall cs hcl hcr j y u hy hu) (hok2 y (List.mem_of_getElem? hy)))
        refine hrun.mono fun e w' he => ?_
        obtain ⟨val, g1, rfl, h1, h2, h3, h4⟩ := he
        obtain ⟨g2, k1, k2, k3, k4⟩ := rel_back h hn hok1 (by simpa using hS.len) hroom hS.kept (fun k y hy => hS.new k y (by simpa using hy)) h1 h2 h3 hS.out h4
        obtain ⟨k5, k6, k7⟩ := putd_rel k1 k4 hput
        exact hK g2 s' _ w' hk k5 (fun T hT => k3 T (fun hh => by have := hT hh; rw [k7] at this; exact this))
      · obtain ⟨fn, hfn, hname, hbody⟩ := hS.1
        obtain ⟨cs, hcl, hcr, hrunE⟩ := hcs fn hfn hname hbody
        rw [hrunE]
        simp only [Oper.upon_enter]
        have hrun := hS.2 E g s a w (xs.map a.eval ++ cs) rfl rfl hlim h (by simp [hlen, hcl]) (hall cs hcl hcr)
        refine hrun.mono fun ex w' he => ?_
        obtain ⟨val, g2, rfl, k1, k3, k4⟩ := he
        obtain ⟨k5, k6, k7⟩ := putd_rel (s := s.sem H' k) k1 k4 hput
        exact hK g2 s' _ w' hk k5 (fun T hT => k3 T (fun hh => by have := hT hh; rw [k7] at this; exact this))
    · obtain ⟨s', hx, hk⟩ := hv
      obtain ⟨g', a', w', h1, h2, h3, h4⟩ := does_exec hT h hx
      rcases h4 with ⟨v, hr, rfl⟩ | ⟨hr, rfl⟩
      · rw [hr]; exact hK g' s' _ w' hk h1 h3
      · rw [hr]; exact hK g' s' _ w' hk h1 h3
  · rename_i hw
    rw [vwant_sound h hw, if_neg (by simp)]
    obtain ⟨s', hput, hk⟩ := hv
    obtain ⟨k5, k6, k7⟩ := putd_rel h undef_rel hput
    exact hK g s' _ w hk k5 (fun _ _ => rfl)
  · exact hv.elim

theorem vops_sound (hT : TyOK P ty) {Q : Exit → St → Prop} : ∀ (l : List Oper) (g : Gh) (s : St) (a : Act) (w : World), Rel P E g s a w → vops P ty ops l s (Q .normal) → wpList P ops (lift P E Q) l a w
  | [], g, s, a, w, h, hv => ⟨g, s, h, hv⟩
  | o :: rest, g, s, a, w, h, hv =>
    vop_sound hT h hv fun g' s' a' w' hk hr _ => vops_sound hT rest g' s' a' w' hr hk

theorem VWP_region (hT : TyOK P ty) {id : Nat} {Q : Exit → St → Prop} (h : vops P ty ops ops.toList s (Q .normal)) : VWP P E (.region id ops false) Q s :=
  fun g a w hr => wp_region_list (vops_sound hT _ g s a w hr h)

theorem lift_mono {Q Q' : Exit → St → Prop} (hq : ∀ e s, Q e s → Q' e s) {e : Exit} {a : Act} {w : World} (he : lift P E Q e a w) : lift P E Q' e a w := by
  cases e <;> first | exact he | (obtain ⟨g, s, h1, h2⟩ := he; exact ⟨g, s, h1, hq _ _ h2⟩)

theorem VWP_mono {c : Code} {Q Q' : Exit → St → Prop} (hq : ∀ e s, Q e s → Q' e s) (h : VWP P E c Q s) : VWP P E c Q' s :=
  fun g a w hr => Go.wp_mono (h g a w hr) fun _ _ _ he => lift_mono hq he

/-- Behind a form of control, the state may be told otherwise. -/
theorem VWP_post {c : Code} {Q Q' : Exit → St → Prop} (hq : ∀ e s, Q e s → ∃ s', (∀ g a w, Rel P E g s a w → ∃ g', Rel P E g' s' a w) ∧ Q' e s') (h : VWP P E c Q s) : VWP P E c Q' s :=
  fun g a w hr => Go.wp_mono (h g a w hr) fun e a w he => by
    cases e <;> first
      | exact he
      | (obtain ⟨g, s, h1, h2⟩ := he
         obtain ⟨s', h3, h4⟩ := hq _ _ h2
         obtain ⟨g', h5⟩ := h3 g a w h1
         exact ⟨g', s', h5, h4⟩)

theorem VWP_skip {Q : Exit → St → Prop} (h : Q .normal s) : VWP P E .skip Q s := fun g a w hr => wp_skip ⟨g, s, hr, h⟩
theorem VWP_exit {id : Nat} {Q : Exit → St → Prop} (h : Q (.exit id) s) : VWP P E (.exit id) Q s := fun g a w hr => wp_exit ⟨g, s, hr, h⟩
theorem VWP_ret {Q : Exit → St → Prop} (h : Q .ret s) : VWP P E .ret Q s := fun g a w hr => wp_ret ⟨g, s, hr, h⟩

def thenQ (K : St → Prop) (Q : Exit → St → Prop) : Exit → St → Prop
  | .normal, s => K s
  | e, s => Q e s
def blockQ (id : Nat) (Q : Exit → St → Prop) : Exit → St → Prop
  | .exit i, s => if i = id then Q .normal s else Q (.exit i) s
  | e, s => Q e s

theorem VWP_seq {x y : Code} {Q : Exit → St → Prop} (h : VWP P E x (thenQ (VWP P E y Q) Q) s) : VWP P E (.seq x y) Q s :=
  fun g a w hr => wp_seq (Go.wp_mono (h g a w hr) fun e a w he => by
    cases e
    case normal => obtain ⟨g, s, h1, h2⟩ := he; exact h2 g a w h1
    all_goals exact he)

theorem VWP_block {id : Nat} {c : Code} {Q : Exit → St → Prop} (h : VWP P E c (blockQ id Q) s) : VWP P E (.block id c) Q s :=
  fun g a w hr => wp_block (Go.wp_mono (h g a w hr) fun e a w he => by
    cases e
    case exit i =>
      obtain ⟨g, s, h1, h2⟩ := he
      by_cases c : i = id
      · subst c
        simp only [blockQ, if_true] at h2
        simp only [Exit.inBlock, if_true]
        exact ⟨g, s, h1, h2⟩
      · simp only [blockQ, if_neg c] at h2
        simp only [Exit.inBlock, if_neg c]
        exact ⟨g, s, h1, h2⟩
    all_goals exact he)

theorem VWP_cond {c : Operand} {x y : Code} {b : Bool} {Q : Exit → St → Prop} (hc : ev s c = .bool b) (h : VWP P E (if b then x else y) Q s) : VWP P E (.cond c x y) Q s :=
  fun g a w hr => wp_cond (t := b) (by have := ev_rel hr c; rw [hc] at this; exact this) (h g a w hr)

theorem VWP_loop {c : Code} {Q : Exit → St → Prop} (I : Nat → St → Prop) (n : Nat) (h0 : I n s) (round : ∀ n s, I n s → VWP P E c (thenQ (fun s' => ∃ m, m < n ∧ I m s') Q) s) : VWP P E (.loop c) Q s := by
  intro g a w hr
  have key : ∀ k m g s a w, m < k → I m s → Rel P E g s a w → Code.rounds P c (lift P E Q) k a w := by
    intro k
    induction k with
    | zero => intro m g s a w hm; omega
    | succ k ih =>
      intro m g s a w hm hI hr
      rw [rounds_succ]
      refine Go.wp_mono (round m s hI g a w hr) fun e a w he => ?_
      cases e
      case normal =>
        obtain ⟨g, s, h1, m', h2, h3⟩ := he
        exact ih m' g s a w (by omega) h3 h1
      all_goals exact he
  exact wp_loop_rounds (n + 1) (key (n + 1) n g s a w (Nat.lt_succ_self _) h0 hr)

/-- What is not needed any more may be forgotten. -/
structure Wk (s s' : St) : Prop where
  tm : ∀ t, s'.tm t = s.tm t ∨ s'.tm t = .any
  H : ∀ T, s'.H T = s.H T ∨ s'.H T = .dead
  nx : s.nx ≤ s'.nx
  N : s'.N = s.N
  lim : s.lim = none ∧ s'.lim = none

theorem hrel_wk {H H' : Heap} (hH : ∀ T, H' T = H T ∨ H' T = .dead) (h : HRel P E g H w) : HRel P E g H' w ∧ HLe g H g H' := by
  have hle : HLe g H g H' := by
    refine ⟨fun _ h => h, fun X e rows hX hh => ?_, fun X hX hh => ?_, fun X hX _ => rfl, fun X hX _ => rfl⟩
    · rcases hH X with h1 | h1
      · rw [h1] at hh; exact ⟨rows, hh⟩
      · rw [h1] at hh; cases hh
    · rcases hH X with h1 | h1
      · rwa [h1] at hh
      · rw [h1] at hh; cases hh
  refine ⟨⟨h.frm, fun X e rows hX p e2 rows2 hp => ?_, fun X cs hX => ?_, fun X hX => ?_⟩, hle⟩
  · rcases hH X with h1 | h1
    · rw [h1] at hX
      exact node_mono hle (h.node X e rows hX p e2 rows2 hp) (fun _ => rfl) (fun _ _ hb => hb) (fun _ _ _ => rfl)
    · rw [h1] at hX; cases hX
  · rcases hH X with h1 | h1
    · rw [h1] at hX
      exact box_mono hle (h.box X cs hX) rfl (fun hh => hh) (fun _ _ hh => hh) (fun cur e he => ⟨cur, he, fun _ _ _ => rfl⟩)
    · rw [h1] at hX; cases hX
  · rcases hH X with h1 | h1
    · rw [h1] at hX; exact h.seen X hX
    · rw [h1] at hX; cases hX

theorem rel_wk {s' : St} (h : Rel P E g s a w) (k : Wk s s') : Rel P E g s' a w := by
  obtain ⟨h1, h2⟩ := hrel_wk k.H h.heap
  refine ⟨by rw [h.size, k.N], h.defers, h1, fun T hT => ?_, fun t => ?_, E.pinOk _ _ _ _ h2 h.pin⟩
  · refine h.fresh T ?_
    unfold St.fresh at hT ⊢
    rw [k.lim.1]
    exact ⟨Nat.le_trans k.nx hT.1, trivial⟩
  · rcases k.tm t with h3 | h3
    · rw [h3]; exact vrel_mono h2 (h.tmps t)
    · rw [h3]; trivial

theorem VWP_wk {c : Code} {Q : Exit → St → Prop} {s' : St} (k : Wk s s') (h : VWP P E c Q s') : VWP P E c Q s := fun g a w hr => h g a w (rel_wk hr k)
end
end Go.Proofs.Ytchkbgekmoileaa

/- The value-level engine, seventeenth part: what a function hands back, and its body as a contract. -/
namespace Go.Proofs.Ytchkbgekmoileaa
open Go Go.RowKit
set_option linter.unusedVariables false
set_option linter.unusedSimpArgs false

def vres (ty : Ty) (s : St) : List ResultVar → Option (List VV)
  | [] => some []
  | .tmp t :: rs => match vres ty s rs with
    | some vs => some (s.tm t :: vs)
    | none => none
  | .cell p t :: rs => match vLoad ty s t (s.tm p), vres ty s rs with
    | some v, some vs => some (v :: vs)
    | _, _ => none

def wrap : List VV → VV
  | [v] => v
  | vs => .tup vs

/-- One slice that is handed back: the token, or none for nil. -/
abbrev Out := Option Nat × TypeId × List (List PT)

def exC (H : Heap) (x : VV) (acc : List Out) : Option (VV × List Out) :=
  match x with
  | .rf T n => match H T with
    | .root e rows => if n ≤ rows.length then some (.rf acc.length n, acc ++ [(some T, e, rows.take n)]) else none
    | _ => none
  | .nl e => some (.rf acc.length 0, acc ++ [(none, e, [])])
  | .int k n => some (.int k n, acc)
  | .bool b => some (.bool b, acc)
  | .str s => some (.str s, acc)
  | .err b => some (.err b, acc)
  | .any => some (.any, acc)
  | _ => none
def exCs (H : Heap) : List VV → List Out → Option (List VV × List Out)
  | [], acc => some ([], acc)
  | x :: xs, acc => match exC H x acc with
    | some (y, acc) => match exCs H xs acc with
      | some (ys, acc) => some (y :: ys, acc)
      | none => none
    | none => none
def exA (H : Heap) (x : VV) (acc : List Out) : Option (VV × List Out) :=
  match x with
  | .agg vs => match exCs H vs acc with
    | some (ys, acc) => some (.agg ys, acc)
    | none => none
  | x => exC H x acc
def exAs (H : Heap) : List VV → List Out → Option (List VV × List Out)
  | [], acc => some ([], acc)
  | x :: xs, acc => match exA H x acc with
    | some (y, acc) => match exAs H xs acc with
      | some (ys, acc) => some (y :: ys, acc)
      | none => none
    | none => none
def exV (H : Heap) (x : VV) : Option (VV × List Out) :=
  match x with
  | .tup vs => match exAs H vs [] with
    | some (ys, acc) => some (.tup ys, acc)
    | none => none
  | x => exA H x []

def Gh.out (g : Gh) (acc : List Out) : Gh :=
  { hd := fun j p => match acc[j]? with
      | some (some T, _, rows) => if p = [] then cutv rows.length (g.hd T []) else g.hd T p
      | some (none, _, _) => .slice none 0 0
      | none => undef
    bx := fun _ => (0, 0)
    own := fun b => match g.own b with
      | some (T, p) => (acc.findIdx? fun x => x.1 == some T).map fun j => (j, p)
      | none => none
    ob := fun _ _ => none
    sn := fun j => decide (j < acc.length) }

def AccOK (H : Heap) (acc : List Out) : Prop := ∀ (j : Nat) (x : Out), acc[j]? = some x → match x with
  | (some T, e, rows) => ∃ rows0, H T = .root e rows0 ∧ rows.length ≤ rows0.length ∧ rows = rows0.take rows.length
  | (none, _, rows) => rows = []

/-- What may be handed back. -/
def RetOK (P : Program) (ty : Ty) (rs : List ResultVar) (v : VV) (l : List (TypeId × List (List PT))) (s : St) : Prop :=
  ∃ ms H' vs acc, merges ms s.H = some H' ∧ vres ty s rs = some vs ∧ exV H' (wrap vs) = some (v, acc) ∧ (acc.filterMap (·.1)).Nodup ∧ acc.map (·.2) = l ∧ ∀ x ∈ l, PurRows x.2

section
variable {P : Program} {E : Env} {g g' : Gh} {s : St} {a : Act} {w w' : World} {ty : Ty} {H : Heap}

theorem cutv_cutv (n : Nat) (v : Value) : cutv n (cutv n v) = cutv n v := by cases v <;> rfl

theorem accOK_snoc {acc : List Out} {x : Out} (h : AccOK H acc) (hx : AccOK H [x]) : AccOK H (acc ++ [x]) := by
  intro j y hj
  rw [List.getElem?_append] at hj
  split at hj
  · exact h j y hj
  · rename_i hge
    have h1 := (List.getElem?_eq_some_iff.1 hj).1
    simp only [List.length_singleton] at h1
    have h0 : j - acc.length = 0 := by omega
    rw [h0] at hj
    exact hx 0 y hj

theorem exC_ok {x y : VV} {acc acc' : List Out} (h : exC H x acc = some (y, acc')) : (∃ z, acc' = acc ++ z) ∧ (AccOK H acc → AccOK H acc') ∧ outC y = true ∧
    ∀ (E : Env) (fin : List Out), (∃ z, fin = acc' ++ z) → ∀ u, CRel P E H g x u → CRel P E (Hp (fin.map (·.2))) (g.out fin) y u := by
  have triv : ∀ {x : VV}, outC x = true → (∀ T n, x ≠ .rf T n) → x = y ∧ acc = acc' → (∃ z, acc' = acc ++ z) ∧ (AccOK H acc → AccOK H acc') ∧ outC y = true ∧
    ∀ (E : Env) (fin : List Out), (∃ z, fin = acc' ++ z) → ∀ u, CRel P E H g x u → CRel P E (Hp (fin.map (·.2))) (g.out fin) y u := by
    intro x ho hn he
    obtain ⟨rfl, rfl⟩ := he
    refine ⟨⟨[], by simp⟩, fun h => h, ho, fun E fin hf u hu => ?_⟩
    cases x <;> first | exact hu | exact absurd rfl (hn _ _) | (simp [outC] at ho; done)
  unfold exC at h
  split at h
  · rename_i T n
    split at h
    · rename_i e rows hT
      split at h
      · rename_i hle
        simp only [Option.some.injEq, Prod.mk.injEq] at h
        obtain ⟨rfl, rfl⟩ := h
        have hl : (rows.take n).length = n := by simp; omega
        refine ⟨⟨_, rfl⟩, fun h => accOK_snoc h (fun j x hj => ?_), rfl, fun E fin hf u hu => ?_⟩
        · cases j with
          | zero =>
            simp only [List.getElem?_cons_zero, Option.some.injEq] at hj
            subst hj
            exact ⟨rows, hT, by rw [hl]; exact hle, by rw [hl]⟩
          | succ j => simp at hj
        · obtain ⟨z, rfl⟩ := hf
          obtain ⟨h1, h2, h3⟩ := hu
          refine ⟨by simp [Gh.out], h2, fun _ => ?_⟩
          have hget : (acc ++ [(some T, e, rows.take n)] ++ z)[acc.length]? = some (some T, e, rows.take n) := by simp
          simp only [Gh.out, hget, if_true, hl]
          rw [cutv_cutv]
          exact h3 (by simp [hT, Ent.isRoot])
      · cases h
    · cases h
  · rename_i e
    simp only [Option.some.injEq, Prod.mk.injEq] at h
    obtain ⟨rfl, rfl⟩ := h
    refine ⟨⟨_, rfl⟩, fun h => accOK_snoc h (fun j x hj => ?_), rfl, fun E fin hf u hu => ?_⟩
    · cases j with
      | zero =>
        simp only [List.getElem?_cons_zero, Option.some.injEq] at hj
        subst hj
        rfl
      | succ j => simp at hj
    · obtain ⟨z, rfl⟩ := hf
      have hu : u = .slice none 0 0 := hu
      subst hu
      have hget : (acc ++ [(none, e, [])] ++ z)[acc.length]? = some (none, e, []) := by simp
      refine ⟨by simp [Gh.out], rfl, fun _ => ?_⟩
      simp only [Gh.out, hget]
      rfl
  all_goals first
    | (simp only [Option.some.injEq, Prod.mk.injEq] at h; exact triv rfl (fun _ _ hh => by cases hh) h)
    | cases h

theorem exCs_ok : ∀ {xs ys : List VV} {acc acc' : List Out}, exCs H xs acc = some (ys, acc') → (∃ z, acc' = acc ++ z) ∧ (AccOK H acc → AccOK H acc') ∧ (∀ y ∈ ys, outC y = true) ∧ ys.length = xs.length ∧
    ∀ (E : Env) (fin : List Out), (∃ z, fin = acc' ++ z) → ∀ (j : Nat) (x y : VV) (u : Value), xs[j]? = some x → ys[j]? = some y → CRel P E H g x u → CRel P E (Hp (fin.map (·.2))) (g.out fin) y u
  | [], ys, acc, acc', h => by
    simp only [exCs, Option.some.injEq, Prod.mk.injEq] at h
    obtain ⟨rfl, rfl⟩ := h
    exact ⟨⟨[], by simp⟩, fun h => h, fun y hy => by simp at hy, rfl, fun E fin hf j x y u hx => by simp at hx⟩
  | x :: xs, ys, acc, acc', h => by
    simp only [exCs] at h
    split at h
    · rename_i y acc1 h1
      split at h
      · rename_i ys1 acc2 h2
        simp only [Option.some.injEq, Prod.mk.injEq] at h
        obtain ⟨rfl, rfl⟩ := h
        obtain ⟨⟨z1, e1⟩, a1, o1, r1⟩ := exC_ok (P := P) (g := g) h1
        obtain ⟨⟨z2, e2⟩, a2, o2, l2, r2⟩ := exCs_ok h2
        refine ⟨⟨z1 ++ z2, by rw [e2, e1, List.append_assoc]⟩, fun h => a2 (a1 h), fun c hc => ?_, by simp [l2], fun E fin hf j x' y' u hx hy hu => ?_⟩
        · rcases List.mem_cons.1 hc with rfl | hc
          · exact o1
          · exact o2 c hc
        · cases j with
          | zero =>
            simp only [List.getElem?_cons_zero, Option.some.injEq] at hx hy
            subst hx; subst hy
            obtain ⟨z, rfl⟩ := hf
            exact r1 E _ ⟨z2 ++ z, by rw [e2, List.append_assoc]⟩ u hu
          | succ j => exact r2 E fin hf j x' y' u (by simpa using hx) (by simpa using hy) hu
      · cases h
    · cases h

theorem exA_ok {x y : VV} {acc acc' : List Out} (h : exA H x acc = some (y, acc')) : (∃ z, acc' = acc ++ z) ∧ (AccOK H acc → AccOK H acc') ∧ outA y = true ∧
    ∀ (E : Env) (fin : List Out), (∃ z, fin = acc' ++ z) → ∀ u, ARel P E H g x u → ARel P E (Hp (fin.map (·.2))) (g.out fin) y u := by
  by_cases ha : ∃ vs, x = .agg vs
  · obtain ⟨vs, rfl⟩ := ha
    simp only [exA] at h
    split at h
    · rename_i ys acc1 h1
      simp only [Option.some.injEq, Prod.mk.injEq] at h
      obtain ⟨rfl, rfl⟩ := h
      obtain ⟨e1, a1, o1, l1, r1⟩ := exCs_ok (P := P) (g := g) h1
      refine ⟨e1, a1, by simpa [outA] using o1, fun E fin hf u hu => ?_⟩
      obtain ⟨cs, k1, k2, k3⟩ := hu
      refine ⟨cs, k1, by rw [k2, l1], fun j c v hc hv => ?_⟩
      have hlt : j < vs.length := by rw [← l1]; exact (List.getElem?_eq_some_iff.1 hc).1
      exact r1 E fin hf j _ c v (List.getElem?_eq_getElem hlt) hc (k3 j _ v (List.getElem?_eq_getElem hlt) hv)
    · cases h
  · have hne : ∀ vs, x ≠ .agg vs := fun vs hh => ha ⟨vs, hh⟩
    have h' : exC H x acc = some (y, acc') := by cases x <;> first | exact h | exact absurd rfl (hne _)
    obtain ⟨e1, a1, o1, r1⟩ := exC_ok (P := P) (g := g) h'
    refine ⟨e1, a1, ?_, fun E fin hf u hu => ?_⟩
    · cases y <;> first | exact o1 | (simp [outC] at o1; done)
    · rw [arel_eq hne] at hu
      exact arel_of_crel (r1 E fin hf u hu)

theorem exAs_ok : ∀ {xs ys : List VV} {acc acc' : List Out}, exAs H xs acc = some (ys, acc') → (∃ z, acc' = acc ++ z) ∧ (AccOK H acc → AccOK H acc') ∧ (∀ y ∈ ys, outA y = true) ∧ ys.length = xs.length ∧
    ∀ (E : Env) (fin : List Out), (∃ z, fin = acc' ++ z) → ∀ (j : Nat) (x y : VV) (u : Value), xs[j]? = some x → ys[j]? = some y → ARel P E H g x u → ARel P E (Hp (fin.map (·.2))) (g.out fin) y u
  | [], ys, acc, acc', h => by
    simp only [exAs, Option.some.injEq, Prod.mk.injEq] at h
    obtain ⟨rfl, rfl⟩ := h
    exact ⟨⟨[], by simp⟩, fun h => h, fun y hy => by simp at hy, rfl, fun E fin hf j x y u hx => by simp at hx⟩
  | x :: xs, ys, acc, acc', h => by
    simp only [exAs] at h
    split at h
    · rename_i y acc1 h1
      split at h
      · rename_i ys1 acc2 h2
        simp only [Option.some.injEq, Prod.mk.injEq] at h
        obtain ⟨rfl, rfl⟩ := h
        obtain ⟨⟨z1, e1⟩, a1, o1, r1⟩ := exA_ok (P := P) (g := g) h1
        obtain ⟨⟨z2, e2⟩, a2, o2, l2, r2⟩ := exAs_ok h2
        refine ⟨⟨z1 ++ z2, by rw [e2, e1, List.append_assoc]⟩, fun h => a2 (a1 h), fun c hc => ?_, by simp [l2], fun E fin hf j x' y' u hx hy hu => ?_⟩
        · rcases List.mem_cons.1 hc with rfl | hc
          · exact o1
          · exact o2 c hc
        · cases j with
          | zero =>
            simp only [List.getElem?_cons_zero, Option.some.injEq] at hx hy
            subst hx; subst hy
            obtain ⟨z, rfl⟩ := hf
            exact r1 E _ ⟨z2 ++ z, by rw [e2, List.append_assoc]⟩ u hu
          | succ j => exact r2 E fin hf j x' y' u (by simpa using hx) (by simpa using hy) hu
      · cases h
    · cases h

theorem exV_ok {x y : VV} {acc : List Out} (h : exV H x = some (y, acc)) : AccOK H acc ∧ outV y = true ∧ ∀ (E : Env) u, VRel P E H g x u → VRel P E (Hp (acc.map (·.2))) (g.out acc) y u := by
  have h0 : AccOK H [] := fun j x hj => by simp at hj
  by_cases ha : ∃ vs, x = .tup vs
  · obtain ⟨vs, rfl⟩ := ha
    simp only [exV] at h
    split at h
    · rename_i ys acc1 h1
      simp only [Option.some.injEq, Prod.mk.injEq] at h
      obtain ⟨rfl, rfl⟩ := h
      obtain ⟨e1, a1, o1, l1, r1⟩ := exAs_ok (P := P) (g := g) h1
      refine ⟨a1 h0, by simpa [outV] using o1, fun E u hu => ?_⟩
      obtain ⟨cs, k1, k2, k3⟩ := hu
      refine ⟨cs, k1, by rw [k2, l1], fun j c v hc hv => ?_⟩
      have hlt : j < vs.length := by rw [← l1]; exact (List.getElem?_eq_some_iff.1 hc).1
      exact r1 E _ ⟨[], by simp⟩ j _ c v (List.getElem?_eq_getElem hlt) hc (k3 j _ v (List.getElem?_eq_getElem hlt) hv)
    · cases h
  · have hne : ∀ vs, x ≠ .tup vs := fun vs hh => ha ⟨vs, hh⟩
    have h' : exA H x [] = some (y, acc) := by cases x <;> first | exact h | exact absurd rfl (hne _)
    obtain ⟨e1, a1, o1, r1⟩ := exA_ok (P := P) (g := g) h'
    refine ⟨a1 h0, ?_, fun E u hu => ?_⟩
    · cases y <;> first | exact o1 | (simp [outA, outC] at o1; done)
    · rw [vrel_eq hne] at hu
      exact vrel_of_arel (r1 E _ ⟨[], by simp⟩ u hu)

theorem find_tok : ∀ {acc : List Out} (hn : (acc.filterMap (·.1)).Nodup) {j T : Nat} {x : TypeId × List (List PT)}, acc[j]? = some (some T, x) → acc.findIdx? (fun x => x.1 == some T) = some j
  | [], _, j, T, x, h => by simp at h
  | (t0, y) :: acc, hn, 0, T, x, h => by
    simp only [List.getElem?_cons_zero, Option.some.injEq, Prod.mk.injEq] at h
    obtain ⟨rfl, rfl⟩ := h
    simp [List.findIdx?_cons]
  | (t0, y) :: acc, hn, j + 1, T, x, h => by
    simp only [List.getElem?_cons_succ] at h
    have hmem : T ∈ acc.filterMap (·.1) := List.mem_filterMap.2 ⟨_, List.mem_of_getElem? h, rfl⟩
    have hne : (t0 == some T) = false := by
      cases t0 with
      | none => rfl
      | some t =>
        simp only [List.filterMap_cons_some (show (fun x : Out => x.1) (some t, y) = some t from rfl), List.nodup_cons] at hn
        have : t ≠ T := fun hh => hn.1 (hh ▸ hmem)
        simpa using this
    have hn' : (acc.filterMap (·.1)).Nodup := by
      cases t0 with
      | none => simpa using hn
      | some t =>
        simp only [List.filterMap_cons_some (show (fun x : Out => x.1) (some t, y) = some t from rfl), List.nodup_cons] at hn
        exact hn.2
    rw [List.findIdx?_cons]
    simp only [hne]
    rw [find_tok hn' h]
    rfl

theorem hrel_out (h : HRel P E g H w) {acc : List Out} (ha : AccOK H acc) (hn : (acc.filterMap (·.1)).Nodup) (hpur : ∀ x ∈ acc, PurRows x.2.2) : HRel P E (g.out acc) (Hp (acc.map (·.2))) w := by
  have hget : ∀ (j : Nat) (e : TypeId) (rows : List (List PT)), Hp (acc.map (·.2)) j = .root e rows → ∃ T, acc[j]? = some (T, e, rows) := by
    intro j e rows hj
    simp only [Hp, List.getElem?_map] at hj
    cases hx : acc[j]? with
    | none => rw [hx] at hj; simp at hj
    | some x =>
      obtain ⟨T, e', rows'⟩ := x
      rw [hx] at hj
      simp only [Option.map_some, Ent.root.injEq] at hj
      obtain ⟨rfl, rfl⟩ := hj
      exact ⟨T, rfl⟩
  refine ⟨h.frm, fun j e rows hj p e2 rows2 hat => ?_, fun j cs hj => ?_, fun j hj => ?_⟩
  · obtain ⟨T, hT⟩ := hget j e rows hj
    have hok := ha j _ hT
    have hpr : PurRows rows := hpur _ (List.mem_of_getElem? hT)
    have hpr2 : PurRows rows2 := pur_at p (.list e rows) (.list _ _ hpr) e2 rows2 hat
    cases T with
    | none =>
      have : rows = [] := hok
      subst this
      cases p with
      | nil =>
        simp only [At, Option.some.injEq, Prod.mk.injEq] at hat
        obtain ⟨rfl, rfl⟩ := hat
        exact .inl ⟨by simp only [Gh.out, hT], rfl⟩
      | cons x q => obtain ⟨i, k⟩ := x; simp [At] at hat
    | some T =>
      obtain ⟨rows0, hroot, hlen, hrows⟩ := hok
      have hfind := find_tok hn hT
      have hown : ∀ b q, g.own b = some (T, q) → (g.out acc).own b = some (j, q) := fun b q hb => by
        simp only [Gh.out, hb, hfind, Option.map_some]
      cases p with
      | nil =>
        simp only [At, Option.some.injEq, Prod.mk.injEq] at hat
        obtain ⟨rfl, rfl⟩ := hat
        have hhd : (g.out acc).hd j [] = cutv rows.length (g.hd T []) := by simp only [Gh.out, hT, if_true]
        rcases h.node T e rows0 hroot [] e rows0 rfl with ⟨h1, h2⟩ | ⟨b, cap, cur, h1, h2, h3, h4, h5, h6, h7, h8⟩
        · subst h2
          have : rows = [] := by simpa using hrows
          subst this
          exact .inl ⟨by rw [hhd, h1]; rfl, rfl⟩
        · refine .inr ⟨b, cap, cur, by rw [hhd, h1]; rfl, hown b [] h2, h3, h4, by omega, h6, h7, fun i r hr => ?_⟩
          have hcp := hpr r (List.mem_of_getElem? hr)
          rw [hrows, List.getElem?_take] at hr
          split at hr
          · obtain ⟨h9, h10⟩ := h8 i r hr
            refine ⟨h9, fun k c hc => ?_⟩
            obtain ⟨u, h11, h12⟩ := h10 k c hc
            refine ⟨u, h11, ?_⟩
            have hhd2 : (g.out acc).hd j ([] ++ [(i, k)]) = g.hd T ([] ++ [(i, k)]) := by simp [Gh.out, hT]
            rw [hhd2]
            have := hcp c (List.mem_of_getElem? hc)
            cases this <;> exact h12
          · cases hr
      | cons x q =>
        obtain ⟨i0, j0⟩ := x
        have hat' : At ((i0, j0) :: q) (.list e rows0) = some (e2, rows2) := by
          simp only [At] at hat ⊢
          rw [hrows, List.getElem?_take] at hat
          split at hat
          · exact hat
          · simp at hat
        have hhd : ∀ q', (g.out acc).hd j ((i0, j0) :: q') = g.hd T ((i0, j0) :: q') := fun q' => by simp [Gh.out, hT]
        rcases h.node T e rows0 hroot _ e2 rows2 hat' with ⟨h1, h2⟩ | ⟨b, cap, cur, h1, h2, h3, h4, h5, h6, h7, h8⟩
        · exact .inl ⟨by rw [hhd]; exact h1, h2⟩
        · refine .inr ⟨b, cap, cur, by rw [hhd]; exact h1, hown b _ h2, h3, h4, h5, h6, h7, fun i r hr => ?_⟩
          obtain ⟨h9, h10⟩ := h8 i r hr
          refine ⟨h9, fun k c hc => ?_⟩
          obtain ⟨u, h11, h12⟩ := h10 k c hc
          refine ⟨u, h11, ?_⟩
          rw [List.cons_append, hhd]
          have := hpr2 r (List.mem_of_getElem? hr) c (List.mem_of_getElem? hc)
          cases this <;> exact h12
  · simp only [Hp] at hj
    split at hj <;> cases hj
  · have : j < acc.length := by
      rcases Nat.lt_or_ge j acc.length with hh | hh
      · exact hh
      · simp [Hp, hh, Ent.live] at hj
    simp [Gh.out, this]

def resSem (tmps : Array Value) : ResultVar → Sem Value
  | .tmp t => pure (tmps.getD t undef)
  | .cell p t => do loadVar t (← asAddr (tmps.getD p undef))

theorem results_eq (fn : Func) (tmps : Array Value) : results fn tmps = (do let vs ← fn.results.mapM (resSem tmps); pure (if h : vs.size = 1 then vs[0] else .tuple vs)) := by
  unfold results
  congr 2

theorem results_run (hT : TyOK P ty) (h : Rel P E g s a w) : ∀ (l : List ResultVar) (vs : List VV), vres ty s l = some vs →
    ∃ us : List Value, (l.mapM (resSem a.tmps)).run P w = .ok us w ∧ us.length = vs.length ∧
      ∀ (j : Nat) (x : VV) (u : Value), vs[j]? = some x → us[j]? = some u → VRel P E s.H g x u
  | [], vs, hv => by
    simp only [vres, Option.some.injEq] at hv
    subst hv
    exact ⟨[], by simp, rfl, fun j x u hx => by simp at hx⟩
  | .tmp t :: rs, vs, hv => by
    simp only [vres] at hv
    split at hv
    · rename_i vs' hv'
      simp only [Option.some.injEq] at hv
      subst hv
      obtain ⟨us, h1, h2, h3⟩ := results_run hT h rs vs' hv'
      refine ⟨a.tmps.getD t undef :: us, by simp only [List.mapM_cons, resSem, Sem.run_bind, Sem.run_pure, Result.andThen_ok, h1], by simp [h2], fun j x u hx hu => ?_⟩
      cases j with
      | zero =>
        simp only [List.getElem?_cons_zero, Option.some.injEq] at hx hu
        subst hx; subst hu
        exact h.tmps t
      | succ j => exact h3 j x u (by simpa using hx) (by simpa using hu)
    · cases hv
  | .cell p t :: rs, vs, hv => by
    simp only [vres] at hv
    split at hv
    · rename_i v vs' hl hv'
      simp only [Option.some.injEq] at hv
      subst hv
      obtain ⟨us, h1, h2, h3⟩ := results_run hT h rs vs' hv'
      obtain ⟨u0, k1, k2⟩ := load_run hT h (h.tmps p) hl
      have k3 : (resSem a.tmps (.cell p t)).run P w = .ok u0 w := by
        simp only [resSem]
        generalize a.tmps.getD p undef = X at *
        cases X with
        | pointer q => cases q with
          | none => simp [Instr.loadAt, Instr.sureAddr, stuck] at k1
          | some q => simpa [Instr.loadAt, Instr.sureAddr, asAddr] using k1
        | _ => simp [Instr.loadAt, Instr.sureAddr, stuck] at k1
      refine ⟨u0 :: us, by simp only [List.mapM_cons, Sem.run_bind, k3, Sem.run_pure, Result.andThen_ok, h1], by simp [h2], fun j x u hx hu => ?_⟩
      cases j with
      | zero =>
        simp only [List.getElem?_cons_zero, Option.some.injEq] at hx hu
        subst hx; subst hu
        exact k2
      | succ j => exact h3 j x u (by simpa using hx) (by simpa using hu)
    · cases hv

theorem exA_ne {x y : VV} {acc acc' : List Out} (h : exA H x acc = some (y, acc')) : ∀ vs, x ≠ .tup vs := by
  rintro vs rfl
  simp [exA, exC] at h
theorem exAs_ne : ∀ {xs ys : List VV} {acc acc' : List Out}, exAs H xs acc = some (ys, acc') → ∀ x ∈ xs, ∀ vs, x ≠ .tup vs
  | [], ys, acc, acc', h => fun x hx => by simp at hx
  | x :: xs, ys, acc, acc', h => by
    simp only [exAs] at h
    split at h
    · rename_i y acc1 h1
      split at h
      · rename_i ys1 acc2 h2
        intro z hz
        rcases List.mem_cons.1 hz with rfl | hz
        · exact exA_ne h1
        · exact exAs_ne h2 z hz
      · cases h
    · cases h

theorem results_ok (hT : TyOK P ty) (h : Rel P E g s a w) {fn : Func} {vs : List VV} (hv : vres ty s fn.results.toList = some vs) {H' : Heap} {v : VV} {acc : List Out} (he : exV H' (wrap vs) = some (v, acc)) :
    ∃ val, (results fn a.tmps).run P w = .ok val w ∧ VRel P E s.H g (wrap vs) val := by
  obtain ⟨us, h1, h2, h3⟩ := results_run hT h _ _ hv
  have hr : (results fn a.tmps).run P w = .ok (if h : us.toArray.size = 1 then us.toArray[0] else .tuple us.toArray) w := by
    rw [results_eq, Array.mapM_eq_mapM_toList]
    simp only [Sem.run_bind, Sem.run_map, h1, Result.andThen_ok, Sem.run_pure]
  refine ⟨_, hr, ?_⟩
  match vs, us, h2, h3, he with
  | [], [], _, _, _ => exact undef_rel
  | [x], [u], _, h3, _ => exact h3 0 x u rfl rfl
  | x :: y :: vs, u1 :: u2 :: us, h2, h3, he =>
    have hw : wrap (x :: y :: vs) = .tup (x :: y :: vs) := rfl
    rw [hw] at he ⊢
    have hd : ¬ (u1 :: u2 :: us).toArray.size = 1 := by simp
    rw [dif_neg hd]
    refine ⟨_, rfl, h2, fun j c u hc hu => ?_⟩
    have := h3 j c u hc hu
    simp only [exV] at he
    split at he
    · rename_i ys acc1 h1
      have hne := exAs_ne h1 c (List.mem_of_getElem? hc)
      rwa [vrel_eq hne] at this
    · cases he

def St.init (args : List VV) (n : Nat) : St := ⟨fun t => (args[t]?).getD .any, fun _ => .dead, 0, n, none⟩

def RetQ (P : Program) (ty : Ty) (rs : List ResultVar) (v : VV) (l : List (TypeId × List (List PT))) : Exit → St → Prop
  | .normal, s => RetOK P ty rs v l s
  | .ret, s => RetOK P ty rs v l s
  | _, _ => False

/-- The call looks only at what was handed to it. -/
def PinLe (E : Env) (m : Nat) : Prop := ∀ g H g' H', (∀ T, T < m → (g.sn T = true → g'.sn T = true) ∧ (∀ e rows', H' T = .root e rows' → ∃ rows, H T = .root e rows) ∧ ((H' T).live = true → (H T).live = true) ∧ g'.hd T [] = g.hd T [] ∧ g'.bx T = g.bx T) → E.pin g H → E.pin g' H'
theorem satP_of_body (hT : TyOK P ty) {f : FuncId} {fn : Func} {c : Code} {args : List VV} {v : VV} {l : List (TypeId × List (List PT))} (hf : P.funcs[f]? = some fn) (hname : (fn.name == "runtime.NumGoroutine") = false)
    (hb : fn.body = some c) {rs : List ResultVar} (hrs : fn.results.toList = rs) {n : Nat} (hn : fn.ntmps = n) (hlen : args.length ≤ n) (hout : outV v = true) (hpur : ∀ x ∈ l, PurRows x.2)
    (hbody : ∀ E, PinLe E 0 → VWP P E c (RetQ P ty rs v l) (St.init args n)) : SatP P f args v l := by
  subst hrs
  subst hn
  refine ⟨⟨fn, hf, hname, by rw [hb]; rfl⟩, hout, hpur, fun w vals hvl hva => ?_⟩
  have hrel : Rel P (botEnv w) Gh.nil (St.init args fn.ntmps) { tmps := vals.toArray ++ Array.replicate (fn.ntmps - vals.toArray.size) undef, defers := [] } w := by
    refine ⟨by simp [St.init]; omega, rfl, ⟨Frm.refl _, fun T e rows h => (by cases h), fun T cs h => (by cases h), fun T h => (by cases h)⟩, fun _ _ => rfl, fun t => ?_, trivial⟩
    simp only [St.init]
    cases ht : args[t]? with
    | none => trivial
    | some x =>
      have hlt : t < vals.length := by rw [hvl]; exact (List.getElem?_eq_some_iff.1 ht).1
      have hu : (vals.toArray ++ Array.replicate (fn.ntmps - vals.toArray.size) undef).getD t undef = vals[t] := by
        rw [Array.getD_eq_getD_getElem?, Array.getElem?_append_left (by simpa using hlt)]
        simp [hlt]
      rw [hu]
      exact vrel_of_arel (hva t x _ ht (List.getElem?_eq_getElem hlt))
  refine calls_of_wp hf hb (Go.wp_mono (hbody _ (fun _ _ _ _ _ _ => trivial) _ _ _ hrel) fun e a w' he => ?_)
  have key : ∀ g s, Rel P (botEnv w) g s a w' → RetOK P ty fn.results.toList v l s → a.defers = [] ∧ ∃ val, (results fn a.tmps).run P w' = .ok val w' ∧
      ∃ val' g', Ending.returned val = .returned val' ∧ HRel P (botEnv w) g' (Hp l) w' ∧ (∀ T, l.length ≤ T → g'.sn T = false) ∧ VRel P (botEnv w) (Hp l) g' v val' := by
    intro g s h hr
    obtain ⟨ms, H', vs, acc, h0, h1, h2, h3, rfl, h5⟩ := hr
    obtain ⟨val, k1, k2⟩ := results_ok hT h h1 h2
    obtain ⟨g1, j1, j2⟩ := rel_merges h h0
    have k2 := vrel_mono j2 k2
    obtain ⟨m1, m2, m3⟩ := exV_ok (P := P) (g := g1) h2
    refine ⟨h.defers, val, k1, val, g1.out acc, rfl, hrel_out j1.heap m1 h3 (fun x hx => h5 _ (List.mem_map_of_mem hx)), fun T hT => ?_, m3 _ _ k2⟩
    have : ¬ T < acc.length := by simpa using hT
    simp [Gh.out, this]
  cases e with
  | normal => obtain ⟨g, s, h1, h2⟩ := he; exact key g s h1 h2
  | ret => obtain ⟨g, s, h1, h2⟩ := he; exact key g s h1 h2
  | exit i => obtain ⟨g, s, h1, h2⟩ := he; exact h2
  | _ => exact he.elim
end
end Go.Proofs.Ytchkbgekmoileaa

/- The value-level engine, seventeenth part, b: the body of a function that turns what it is handed, as a contract. -/
namespace Go.Proofs.Ytchkbgekmoileaa
open Go Go.RowKit
set_option linter.unusedVariables false
set_option linter.unusedSimpArgs false

def exOC (m : Nat) (H : Heap) (kb : Bool) (x : VV) (acc : List Out) : Option (VV × List Out) :=
  match x with
  | .rf T n => if T < m then some (.rf T n, acc) else match H T with
    | .root e rows => if n ≤ rows.length then some (.rf (m + acc.length) n, acc ++ [(some T, e, rows.take n)]) else none
    | _ => none
  | .nl e => if kb = true then some (.nl e, acc) else some (.rf (m + acc.length) 0, acc ++ [(none, e, [])])
  | .int k n => some (.int k n, acc)
  | .bool b => some (.bool b, acc)
  | .str s => some (.str s, acc)
  | .err b => some (.err b, acc)
  | .any => some (.any, acc)
  | .fr e rows => if kb = true then some (.fr e rows, acc) else none
  | _ => none
def exOCs (m : Nat) (H : Heap) (kb : Bool) : List VV → List Out → Option (List VV × List Out)
  | [], acc => some ([], acc)
  | x :: xs, acc => match exOC m H kb x acc with
    | some (y, acc) => match exOCs m H kb xs acc with
      | some (ys, acc) => some (y :: ys, acc)
      | none => none
    | none => none
def exOA (m : Nat) (H : Heap) (x : VV) (acc : List Out) : Option (VV × List Out) :=
  match x with
  | .agg vs => match exOCs m H false vs acc with
    | some (ys, acc) => some (.agg ys, acc)
    | none => none
  | x => exOC m H false x acc
def exOAs (m : Nat) (H : Heap) : List VV → List Out → Option (List VV × List Out)
  | [], acc => some ([], acc)
  | x :: xs, acc => match exOA m H x acc with
    | some (y, acc) => match exOAs m H xs acc with
      | some (ys, acc) => some (y :: ys, acc)
      | none => none
    | none => none
def exOV (m : Nat) (H : Heap) (x : VV) (acc : List Out) : Option (VV × List Out) :=
  match x with
  | .tup vs => match exOAs m H vs acc with
    | some (ys, acc) => some (.tup ys, acc)
    | none => none
  | x => exOA m H x acc
/-- What becomes of what was handed over. -/
def exEs (m : Nat) (H : Heap) : List Ent → List Out → Option (List Ent × List Out)
  | [], acc => some ([], acc)
  | .box cs :: xs, acc => match exOCs m H true cs acc with
    | some (ys, acc) => match exEs m H xs acc with
      | some (zs, acc) => some (.box ys :: zs, acc)
      | none => none
    | none => none
  | x :: xs, acc => match exEs m H xs acc with
    | some (zs, acc) => some (x :: zs, acc)
    | none => none

def rootOf (x : Out) : Ent := .root x.2.1 x.2.2
def Gh.outO (g : Gh) (m : Nat) (acc : List Out) : Gh :=
  { hd := fun j p => if j < m then g.hd j p else match acc[j - m]? with
      | some (some T, _, rows) => if p = [] then cutv rows.length (g.hd T []) else g.hd T p
      | some (none, _, _) => .slice none 0 0
      | none => undef
    bx := g.bx
    own := fun b => match g.own b with
      | some (T, p) => if T < m then some (T, p) else (acc.findIdx? fun x => x.1 == some T).map fun j => (m + j, p)
      | none => none
    ob := g.ob
    sn := fun j => if j < m then g.sn j else decide (j < m + acc.length) }
def TokGe (m : Nat) (acc : List Out) : Prop := ∀ x ∈ acc, ∀ T, x.1 = some T → m ≤ T

def keptL : List Ent → List Ent → Prop
  | [], O => ∀ y ∈ O, newOk y
  | x :: I, y :: O => keptOk x y ∧ keptL I O
  | _ :: _, [] => False

def keptLV : List Ent → List Ent → Prop
  | [], O => ∀ y ∈ O, newOk y
  | x :: I, y :: O => keptOkF true x y ∧ keptLV I O
  | _ :: _, [] => False
theorem keptLV_of : ∀ {I O : List Ent}, keptL I O → keptLV I O
  | [], O, h => h
  | x :: I, [], h => h.elim
  | x :: I, y :: O, h => ⟨keptOkF_of h.1, keptLV_of h.2⟩

def RetO (P : Program) (ty : Ty) (rs : List ResultVar) (m : Nat) (v : VV) (O : List Ent) (s : St) : Prop :=
  ∃ ms H' Ks K2 acc1 vs acc, merges ms s.H = some H' ∧ Ks.length = m ∧ (∀ (k : Nat) (x : Ent), Ks[k]? = some x → H' k = x) ∧ exEs m H' Ks [] = some (K2, acc1) ∧ vres ty s rs = some vs ∧ exOV m H' (wrap vs) acc1 = some (v, acc) ∧
    (acc.filterMap (·.1)).Nodup ∧ K2 ++ acc.map rootOf = O

section
variable {P : Program} {E : Env} {g g' : Gh} {s : St} {a : Act} {w w' : World} {ty : Ty} {H : Heap} {m : Nat}

theorem keptL_spec : ∀ {I O : List Ent}, keptL I O → I.length ≤ O.length ∧ (∀ (k : Nat) (x y : Ent), I[k]? = some x → O[k]? = some y → keptOk x y) ∧ ∀ (k : Nat) (y : Ent), I.length ≤ k → O[k]? = some y → newOk y
  | [], O, h => ⟨Nat.zero_le _, fun k x y hx => by simp at hx, fun k y _ hy => h y (List.mem_of_getElem? hy)⟩
  | x :: I, [], h => h.elim
  | x :: I, y :: O, h => by
    obtain ⟨h1, h2⟩ := h
    obtain ⟨k1, k2, k3⟩ := keptL_spec h2
    refine ⟨by simpa using k1, fun k a b ha hb => ?_, fun k b hk hb => ?_⟩
    · cases k with
      | zero => simp only [List.getElem?_cons_zero, Option.some.injEq] at ha hb; subst ha; subst hb; exact h1
      | succ k => exact k2 k a b (by simpa using ha) (by simpa using hb)
    · cases k with
      | zero => simp at hk
      | succ k => exact k3 k b (by simpa using hk) (by simpa using hb)

theorem keptLV_spec : ∀ {I O : List Ent}, keptLV I O → I.length ≤ O.length ∧ (∀ (k : Nat) (x y : Ent), I[k]? = some x → O[k]? = some y → keptOkF true x y) ∧ ∀ (k : Nat) (y : Ent), I.length ≤ k → O[k]? = some y → newOk y
  | [], O, h => ⟨Nat.zero_le _, fun k x y hx => by simp at hx, fun k y _ hy => h y (List.mem_of_getElem? hy)⟩
  | x :: I, [], h => h.elim
  | x :: I, y :: O, h => by
    obtain ⟨h1, h2⟩ := h
    obtain ⟨k1, k2, k3⟩ := keptLV_spec h2
    refine ⟨by simpa using k1, fun k a b ha hb => ?_, fun k b hk hb => ?_⟩
    · cases k with
      | zero => simp only [List.getElem?_cons_zero, Option.some.injEq] at ha hb; subst ha; subst hb; exact h1
      | succ k => exact k2 k a b (by simpa using ha) (by simpa using hb)
    · cases k with
      | zero => simp at hk
      | succ k => exact k3 k b (by simpa using hk) (by simpa using hb)

theorem hpE_out {K2 : List Ent} (hl : K2.length = m) (fin : List Out) (T : Nat) : HpE (K2 ++ fin.map rootOf) T = if T < m then (K2[T]?).getD .dead else ((fin[T - m]?).map rootOf).getD .dead := by
  simp only [HpE, List.getElem?_append, hl, List.getElem?_map]
  split <;> rfl

theorem tokGe_snoc {acc : List Out} {x : Out} (h : TokGe m acc) (hx : ∀ T, x.1 = some T → m ≤ T) : TokGe m (acc ++ [x]) := by
  intro y hy T hT
  rcases List.mem_append.1 hy with hy | hy
  · exact h y hy T hT
  · simp only [List.mem_singleton] at hy; subst hy; exact hx T hT

/-- What is known of an entry that was handed over when all is done. -/
def Keeps (H : Heap) (K2 : List Ent) : Prop := ∀ (T : Nat), ((K2[T]?).getD .dead).isRoot = true → (H T).isRoot = true

theorem exOC_ok {kb : Bool} {x y : VV} {acc acc' : List Out} (h : exOC m H kb x acc = some (y, acc')) : (∃ z, acc' = acc ++ z) ∧ (AccOK H acc → AccOK H acc') ∧ (TokGe m acc → TokGe m acc') ∧ outF true y = true ∧ (kb = false → outC y = true) ∧
    ∀ (E : Env) (fin : List Out) (K2 : List Ent), (∃ z, fin = acc' ++ z) → K2.length = m → Keeps H K2 → ∀ u, CRel P E H g x u → CRel P E (HpE (K2 ++ fin.map rootOf)) (g.outO m fin) y u := by
  have triv : ∀ {x : VV}, outF true x = true → (kb = false → outC x = true) → (∀ T n, x ≠ .rf T n) → x = y ∧ acc = acc' → (∃ z, acc' = acc ++ z) ∧ (AccOK H acc → AccOK H acc') ∧ (TokGe m acc → TokGe m acc') ∧ outF true y = true ∧ (kb = false → outC y = true) ∧
    ∀ (E : Env) (fin : List Out) (K2 : List Ent), (∃ z, fin = acc' ++ z) → K2.length = m → Keeps H K2 → ∀ u, CRel P E H g x u → CRel P E (HpE (K2 ++ fin.map rootOf)) (g.outO m fin) y u := by
    intro x ho ho2 hn he
    obtain ⟨rfl, rfl⟩ := he
    refine ⟨⟨[], by simp⟩, fun h => h, fun h => h, ho, ho2, fun E fin K2 hf _ _ u hu => ?_⟩
    cases x <;> first | exact hu | exact absurd rfl (hn _ _) | (simp [outF, outE, isFr] at ho; done)
  unfold exOC at h
  split at h
  · rename_i T n
    split at h
    · rename_i hTm
      simp only [Option.some.injEq, Prod.mk.injEq] at h
      obtain ⟨rfl, rfl⟩ := h
      refine ⟨⟨[], by simp⟩, fun h => h, fun h => h, rfl, fun _ => rfl, fun E fin K2 hf hl hk u hu => ?_⟩
      obtain ⟨h1, h2, h3⟩ := hu
      refine ⟨by simp only [Gh.outO, if_pos hTm]; exact h1, h2, fun hr => ?_⟩
      rw [hpE_out hl, if_pos hTm] at hr
      simp only [Gh.outO, if_pos hTm]
      exact h3 (hk T hr)
    · rename_i hTm
      split at h
      · rename_i e rows hT
        split at h
        · rename_i hle
          simp only [Option.some.injEq, Prod.mk.injEq] at h
          obtain ⟨rfl, rfl⟩ := h
          have hl : (rows.take n).length = n := by simp; omega
          refine ⟨⟨_, rfl⟩, fun h => accOK_snoc h (fun j x hj => ?_), fun h => tokGe_snoc h (fun T' hT' => by injection hT' with hT'; omega), rfl, fun _ => rfl, fun E fin K2 hf hl2 hk u hu => ?_⟩
          · cases j with
            | zero =>
              simp only [List.getElem?_cons_zero, Option.some.injEq] at hj
              subst hj
              exact ⟨rows, hT, by rw [hl]; exact hle, by rw [hl]⟩
            | succ j => simp at hj
          · obtain ⟨z, rfl⟩ := hf
            obtain ⟨h1, h2, h3⟩ := hu
            have hnm : ¬ m + acc.length < m := by omega
            refine ⟨by simp [Gh.outO], h2, fun _ => ?_⟩
            have hget : (acc ++ [(some T, e, rows.take n)] ++ z)[m + acc.length - m]? = some (some T, e, rows.take n) := by
              rw [Nat.add_sub_cancel_left]; simp
            simp only [Gh.outO, if_neg hnm, hget, if_true, hl]
            rw [cutv_cutv]
            exact h3 (by simp [hT, Ent.isRoot])
        · cases h
      · cases h
  · rename_i e
    split at h
    · rename_i hkb
      simp only [Option.some.injEq, Prod.mk.injEq] at h
      exact triv rfl (fun hh => by rw [hkb] at hh; cases hh) (fun _ _ hh => by cases hh) h
    · simp only [Option.some.injEq, Prod.mk.injEq] at h
      obtain ⟨rfl, rfl⟩ := h
      refine ⟨⟨_, rfl⟩, fun h => accOK_snoc h (fun j x hj => ?_), fun h => tokGe_snoc h (fun T' hT' => by cases hT'), rfl, fun _ => rfl, fun E fin K2 hf hl hk u hu => ?_⟩
      · cases j with
        | zero =>
          simp only [List.getElem?_cons_zero, Option.some.injEq] at hj
          subst hj
          rfl
        | succ j => simp at hj
      · obtain ⟨z, rfl⟩ := hf
        have hu : u = .slice none 0 0 := hu
        subst hu
        have hnm : ¬ m + acc.length < m := by omega
        have hget : (acc ++ [(none, e, [])] ++ z)[m + acc.length - m]? = some (none, e, []) := by
          rw [Nat.add_sub_cancel_left]; simp
        refine ⟨by simp [Gh.outO], rfl, fun _ => ?_⟩
        simp only [Gh.outO, if_neg hnm, hget]
        rfl
  all_goals first
    | (simp only [Option.some.injEq, Prod.mk.injEq] at h; exact triv rfl (fun _ => rfl) (fun _ _ hh => by cases hh) h)
    | (split at h
       · rename_i hkb
         simp only [Option.some.injEq, Prod.mk.injEq] at h
         exact triv rfl (fun hh => by rw [hkb] at hh; cases hh) (fun _ _ hh => by cases hh) h
       · cases h)
    | cases h

theorem exOCs_ok {kb : Bool} : ∀ {xs ys : List VV} {acc acc' : List Out}, exOCs m H kb xs acc = some (ys, acc') → (∃ z, acc' = acc ++ z) ∧ (AccOK H acc → AccOK H acc') ∧ (TokGe m acc → TokGe m acc') ∧ (∀ y ∈ ys, outF true y = true ∧ (kb = false → outC y = true)) ∧ ys.length = xs.length ∧
    ∀ (E : Env) (fin : List Out) (K2 : List Ent), (∃ z, fin = acc' ++ z) → K2.length = m → Keeps H K2 → ∀ (j : Nat) (x y : VV) (u : Value), xs[j]? = some x → ys[j]? = some y → CRel P E H g x u → CRel P E (HpE (K2 ++ fin.map rootOf)) (g.outO m fin) y u
  | [], ys, acc, acc', h => by
    simp only [exOCs, Option.some.injEq, Prod.mk.injEq] at h
    obtain ⟨rfl, rfl⟩ := h
    exact ⟨⟨[], by simp⟩, fun h => h, fun h => h, fun y hy => by simp at hy, rfl, fun E fin K2 hf _ _ j x y u hx => by simp at hx⟩
  | x :: xs, ys, acc, acc', h => by
    simp only [exOCs] at h
    split at h
    · rename_i y acc1 h1
      split at h
      · rename_i ys1 acc2 h2
        simp only [Option.some.injEq, Prod.mk.injEq] at h
        obtain ⟨rfl, rfl⟩ := h
        obtain ⟨⟨z1, e1⟩, a1, b1, o1, o1', r1⟩ := exOC_ok (P := P) (g := g) h1
        obtain ⟨⟨z2, e2⟩, a2, b2, o2, l2, r2⟩ := exOCs_ok h2
        refine ⟨⟨z1 ++ z2, by rw [e2, e1, List.append_assoc]⟩, fun h => a2 (a1 h), fun h => b2 (b1 h), fun c hc => ?_, by simp [l2], fun E fin K2 hf hl hk j x' y' u hx hy hu => ?_⟩
        · rcases List.mem_cons.1 hc with rfl | hc
          · exact ⟨o1, o1'⟩
          · exact o2 c hc
        · cases j with
          | zero =>
            simp only [List.getElem?_cons_zero, Option.some.injEq] at hx hy
            subst hx; subst hy
            obtain ⟨z, rfl⟩ := hf
            exact r1 E _ K2 ⟨z2 ++ z, by rw [e2, List.append_assoc]⟩ hl hk u hu
          | succ j => exact r2 E fin K2 hf hl hk j x' y' u (by simpa using hx) (by simpa using hy) hu
      · cases h
    · cases h

theorem exOA_ok {x y : VV} {acc acc' : List Out} (h : exOA m H x acc = some (y, acc')) : (∃ z, acc' = acc ++ z) ∧ (AccOK H acc → AccOK H acc') ∧ (TokGe m acc → TokGe m acc') ∧ outA y = true ∧
    ∀ (E : Env) (fin : List Out) (K2 : List Ent), (∃ z, fin = acc' ++ z) → K2.length = m → Keeps H K2 → ∀ u, ARel P E H g x u → ARel P E (HpE (K2 ++ fin.map rootOf)) (g.outO m fin) y u := by
  by_cases ha : ∃ vs, x = .agg vs
  · obtain ⟨vs, rfl⟩ := ha
    simp only [exOA] at h
    split at h
    · rename_i ys acc1 h1
      simp only [Option.some.injEq, Prod.mk.injEq] at h
      obtain ⟨rfl, rfl⟩ := h
      obtain ⟨e1, a1, b1, o1, l1, r1⟩ := exOCs_ok (P := P) (g := g) h1
      refine ⟨e1, a1, b1, by simp only [outA, List.all_eq_true]; exact fun y hy => (o1 y hy).2 rfl, fun E fin K2 hf hl hk u hu => ?_⟩
      obtain ⟨cs, k1, k2, k3⟩ := hu
      refine ⟨cs, k1, by rw [k2, l1], fun j c v hc hv => ?_⟩
      have hlt : j < vs.length := by rw [← l1]; exact (List.getElem?_eq_some_iff.1 hc).1
      exact r1 E fin K2 hf hl hk j _ c v (List.getElem?_eq_getElem hlt) hc (k3 j _ v (List.getElem?_eq_getElem hlt) hv)
    · cases h
  · have hne : ∀ vs, x ≠ .agg vs := fun vs hh => ha ⟨vs, hh⟩
    have h' : exOC m H false x acc = some (y, acc') := by cases x <;> first | exact h | exact absurd rfl (hne _)
    obtain ⟨e1, a1, b1, o1, o2, r1⟩ := exOC_ok (P := P) (g := g) h'
    have o2 := o2 rfl
    refine ⟨e1, a1, b1, ?_, fun E fin K2 hf hl hk u hu => ?_⟩
    · cases y <;> first | exact o2 | (simp [outC] at o2; done)
    · rw [arel_eq hne] at hu
      exact arel_of_crel (r1 E fin K2 hf hl hk u hu)

theorem exOAs_ok : ∀ {xs ys : List VV} {acc acc' : List Out}, exOAs m H xs acc = some (ys, acc') → (∃ z, acc' = acc ++ z) ∧ (AccOK H acc → AccOK H acc') ∧ (TokGe m acc → TokGe m acc') ∧ (∀ y ∈ ys, outA y = true) ∧ ys.length = xs.length ∧
    ∀ (E : Env) (fin : List Out) (K2 : List Ent), (∃ z, fin = acc' ++ z) → K2.length = m → Keeps H K2 → ∀ (j : Nat) (x y : VV) (u : Value), xs[j]? = some x → ys[j]? = some y → ARel P E H g x u → ARel P E (HpE (K2 ++ fin.map rootOf)) (g.outO m fin) y u
  | [], ys, acc, acc', h => by
    simp only [exOAs, Option.some.injEq, Prod.mk.injEq] at h
    obtain ⟨rfl, rfl⟩ := h
    exact ⟨⟨[], by simp⟩, fun h => h, fun h => h, fun y hy => by simp at hy, rfl, fun E fin K2 hf _ _ j x y u hx => by simp at hx⟩
  | x :: xs, ys, acc, acc', h => by
    simp only [exOAs] at h
    split at h
    · rename_i y acc1 h1
      split at h
      · rename_i ys1 acc2 h2
        simp only [Option.some.injEq, Prod.mk.injEq] at h
        obtain ⟨rfl, rfl⟩ := h
        obtain ⟨⟨z1, e1⟩, a1, b1, o1, r1⟩ := exOA_ok (P := P) (g := g) h1
        obtain ⟨⟨z2, e2⟩, a2, b2, o2, l2, r2⟩ := exOAs_ok h2
        refine ⟨⟨z1 ++ z2, by rw [e2, e1, List.append_assoc]⟩, fun h => a2 (a1 h), fun h => b2 (b1 h), fun c hc => ?_, by simp [l2], fun E fin K2 hf hl hk j x' y' u hx hy hu => ?_⟩
        · rcases List.mem_cons.1 hc with rfl | hc
          · exact o1
          · exact o2 c hc
        · cases j with
          | zero =>
            simp only [List.getElem?_cons_zero, Option.some.injEq] at hx hy
            subst hx; subst hy
            obtain ⟨z, rfl⟩ := hf
            exact r1 E _ K2 ⟨z2 ++ z, by rw [e2, List.append_assoc]⟩ hl hk u hu
          | succ j => exact r2 E fin K2 hf hl hk j x' y' u (by simpa using hx) (by simpa using hy) hu
      · cases h
    · cases h

theorem exOV_ok {x y : VV} {acc acc' : List Out} (h : exOV m H x acc = some (y, acc')) : (∃ z, acc' = acc ++ z) ∧ (AccOK H acc → AccOK H acc') ∧ (TokGe m acc → TokGe m acc') ∧
    ∀ (E : Env) (K2 : List Ent), K2.length = m → Keeps H K2 → ∀ u, VRel P E H g x u → VRel P E (HpE (K2 ++ acc'.map rootOf)) (g.outO m acc') y u := by
  by_cases ha : ∃ vs, x = .tup vs
  · obtain ⟨vs, rfl⟩ := ha
    simp only [exOV] at h
    split at h
    · rename_i ys acc1 h1
      simp only [Option.some.injEq, Prod.mk.injEq] at h
      obtain ⟨rfl, rfl⟩ := h
      obtain ⟨e1, a1, b1, o1, l1, r1⟩ := exOAs_ok (P := P) (g := g) h1
      refine ⟨e1, a1, b1, fun E K2 hl hk u hu => ?_⟩
      obtain ⟨cs, k1, k2, k3⟩ := hu
      refine ⟨cs, k1, by rw [k2, l1], fun j c v hc hv => ?_⟩
      have hlt : j < vs.length := by rw [← l1]; exact (List.getElem?_eq_some_iff.1 hc).1
      exact r1 E _ K2 ⟨[], by simp⟩ hl hk j _ c v (List.getElem?_eq_getElem hlt) hc (k3 j _ v (List.getElem?_eq_getElem hlt) hv)
    · cases h
  · have hne : ∀ vs, x ≠ .tup vs := fun vs hh => ha ⟨vs, hh⟩
    have h' : exOA m H x acc = some (y, acc') := by cases x <;> first | exact h | exact absurd rfl (hne _)
    obtain ⟨e1, a1, b1, o1, r1⟩ := exOA_ok (P := P) (g := g) h'
    refine ⟨e1, a1, b1, fun E K2 hl hk u hu => ?_⟩
    rw [vrel_eq hne] at hu
    exact vrel_of_arel (r1 E _ K2 ⟨[], by simp⟩ hl hk u hu)

theorem exOA_ne {x y : VV} {acc acc' : List Out} (h : exOA m H x acc = some (y, acc')) : ∀ vs, x ≠ .tup vs := by
  rintro vs rfl
  simp [exOA, exOC] at h
theorem exOAs_ne : ∀ {xs ys : List VV} {acc acc' : List Out}, exOAs m H xs acc = some (ys, acc') → ∀ x ∈ xs, ∀ vs, x ≠ .tup vs
  | [], ys, acc, acc', h => fun x hx => by simp at hx
  | x :: xs, ys, acc, acc', h => by
    simp only [exOAs] at h
    split at h
    · rename_i y acc1 h1
      split at h
      · rename_i ys1 acc2 h2
        intro z hz
        rcases List.mem_cons.1 hz with rfl | hz
        · exact exOA_ne h1
        · exact exOAs_ne h2 z hz
      · cases h
    · cases h

/-- The entries, as they come out. -/
theorem exEs_ok : ∀ {Ks K2 : List Ent} {acc acc' : List Out}, exEs m H Ks acc = some (K2, acc') → (∃ z, acc' = acc ++ z) ∧ (AccOK H acc → AccOK H acc') ∧ (TokGe m acc → TokGe m acc') ∧ K2.length = Ks.length ∧
    (∀ (k : Nat) (y : Ent), K2[k]? = some y → ∃ x, Ks[k]? = some x ∧ match y with
      | .dead => True
      | .root e rows => x = .root e rows
      | .box ys => ∃ cs, x = .box cs ∧ ys.length = cs.length ∧ ∀ (E : Env) (fin : List Out) (K3 : List Ent), (∃ z, fin = acc' ++ z) → K3.length = m → Keeps H K3 → ∀ (j : Nat) (c d : VV) (u : Value), cs[j]? = some c → ys[j]? = some d → CRel P E H g c u → CRel P E (HpE (K3 ++ fin.map rootOf)) (g.outO m fin) d u)
  | [], K2, acc, acc', h => by
    simp only [exEs, Option.some.injEq, Prod.mk.injEq] at h
    obtain ⟨rfl, rfl⟩ := h
    exact ⟨⟨[], by simp⟩, fun h => h, fun h => h, rfl, fun k y hy => by simp at hy⟩
  | .box cs :: xs, K2, acc, acc', h => by
    simp only [exEs] at h
    split at h
    · rename_i ys acc1 h1
      split at h
      · rename_i zs acc2 h2
        simp only [Option.some.injEq, Prod.mk.injEq] at h
        obtain ⟨rfl, rfl⟩ := h
        obtain ⟨⟨z1, e1⟩, a1, b1, o1, l1, r1⟩ := exOCs_ok (P := P) (g := g) h1
        obtain ⟨⟨z2, e2⟩, a2, b2, l2, r2⟩ := exEs_ok h2
        refine ⟨⟨z1 ++ z2, by rw [e2, e1, List.append_assoc]⟩, fun h => a2 (a1 h), fun h => b2 (b1 h), by simp [l2], fun k y hy => ?_⟩
        cases k with
        | zero =>
          simp only [List.getElem?_cons_zero, Option.some.injEq] at hy
          subst hy
          refine ⟨_, rfl, cs, rfl, l1, fun E fin K3 hf hl hk j c d u hc hd hu => ?_⟩
          obtain ⟨z, rfl⟩ := hf
          exact r1 E _ K3 ⟨z2 ++ z, by rw [e2, List.append_assoc]⟩ hl hk j c d u hc hd hu
        | succ k => exact r2 k y (by simpa using hy)
      · cases h
    · cases h
  | .root e rows :: xs, K2, acc, acc', h => by
    simp only [exEs] at h
    split at h
    · rename_i zs acc2 h2
      simp only [Option.some.injEq, Prod.mk.injEq] at h
      obtain ⟨rfl, rfl⟩ := h
      obtain ⟨e2, a2, b2, l2, r2⟩ := exEs_ok h2
      refine ⟨e2, a2, b2, by simp [l2], fun k y hy => ?_⟩
      cases k with
      | zero =>
        simp only [List.getElem?_cons_zero, Option.some.injEq] at hy
        subst hy
        exact ⟨_, rfl, rfl⟩
      | succ k => exact r2 k y (by simpa using hy)
    · cases h
  | .dead :: xs, K2, acc, acc', h => by
    simp only [exEs] at h
    split at h
    · rename_i zs acc2 h2
      simp only [Option.some.injEq, Prod.mk.injEq] at h
      obtain ⟨rfl, rfl⟩ := h
      obtain ⟨e2, a2, b2, l2, r2⟩ := exEs_ok h2
      refine ⟨e2, a2, b2, by simp [l2], fun k y hy => ?_⟩
      cases k with
      | zero =>
        simp only [List.getElem?_cons_zero, Option.some.injEq] at hy
        subst hy
        exact ⟨_, rfl, trivial⟩
      | succ k => exact r2 k y (by simpa using hy)
    · cases h

theorem hrel_outO (h : HRel P E g H w) {acc : List Out} (ha : AccOK H acc) (hn : (acc.filterMap (·.1)).Nodup) (hge : TokGe m acc) (hpur : ∀ x ∈ acc, PurRows x.2.2) {K2 : List Ent} (hl : K2.length = m)
    (hK : ∀ (k : Nat) (y : Ent), K2[k]? = some y → match y with
      | .dead => True
      | .root e rows => H k = .root e rows ∧ PurRows rows
      | .box ys => ∃ cs, H k = .box cs ∧ ys.length = cs.length ∧ ∀ (j : Nat) (c d : VV) (u : Value), cs[j]? = some c → ys[j]? = some d → CRel P E H g c u → CRel P E (HpE (K2 ++ acc.map rootOf)) (g.outO m acc) d u) :
    HRel P E (g.outO m acc) (HpE (K2 ++ acc.map rootOf)) w := by
  refine ⟨h.frm, fun j e rows hj p e2 rows2 hat => ?_, fun j cs hj => ?_, fun j hj => ?_⟩
  · rw [hpE_out hl] at hj
    by_cases hjm : j < m
    · rw [if_pos hjm] at hj
      have hget : K2[j]? = some K2[j] := List.getElem?_eq_getElem (by omega)
      rw [hget, Option.getD_some] at hj
      have hk := hK j _ hget
      rw [hj] at hk
      obtain ⟨hroot, hpr⟩ := hk
      have hpr2 : PurRows rows2 := pur_at p (.list e rows) (.list _ _ hpr) e2 rows2 hat
      have hhd : ∀ q, (g.outO m acc).hd j q = g.hd j q := fun q => by simp only [Gh.outO, if_pos hjm]
      rcases h.node j e rows hroot p e2 rows2 hat with ⟨h1, h2⟩ | ⟨b, cap, cur, h1, h2, h3, h4, h5, h6, h7, h8⟩
      · exact .inl ⟨by rw [hhd]; exact h1, h2⟩
      · refine .inr ⟨b, cap, cur, by rw [hhd]; exact h1, by simp only [Gh.outO, h2, if_pos hjm], h3, h4, h5, h6, h7, fun i r hr => ?_⟩
        obtain ⟨h9, h10⟩ := h8 i r hr
        refine ⟨h9, fun k c hc => ?_⟩
        obtain ⟨u, h11, h12⟩ := h10 k c hc
        refine ⟨u, h11, ?_⟩
        rw [hhd]
        have := hpr2 r (List.mem_of_getElem? hr) c (List.mem_of_getElem? hc)
        cases this <;> exact h12
    · rw [if_neg hjm] at hj
      obtain ⟨T, hT⟩ : ∃ T, acc[j - m]? = some (T, e, rows) := by
        cases hx : acc[j - m]? with
        | none => rw [hx] at hj; cases hj
        | some x =>
          obtain ⟨T, e', rows'⟩ := x
          rw [hx] at hj
          simp only [Option.map_some, rootOf, Option.getD_some, Ent.root.injEq] at hj
          obtain ⟨rfl, rfl⟩ := hj
          exact ⟨T, rfl⟩
      have hok := ha (j - m) _ hT
      have hpr : PurRows rows := hpur _ (List.mem_of_getElem? hT)
      have hpr2 : PurRows rows2 := pur_at p (.list e rows) (.list _ _ hpr) e2 rows2 hat
      cases T with
      | none =>
        have : rows = [] := hok
        subst this
        cases p with
        | nil =>
          simp only [At, Option.some.injEq, Prod.mk.injEq] at hat
          obtain ⟨rfl, rfl⟩ := hat
          exact .inl ⟨by simp only [Gh.outO, if_neg hjm, hT], rfl⟩
        | cons x q => obtain ⟨i, k⟩ := x; simp [At] at hat
      | some T =>
        obtain ⟨rows0, hroot, hlen, hrows⟩ := hok
        have hfind := find_tok hn hT
        have hTm : ¬ T < m := Nat.not_lt.2 (hge _ (List.mem_of_getElem? hT) T rfl)
        have hown : ∀ b q, g.own b = some (T, q) → (g.outO m acc).own b = some (j, q) := fun b q hb => by
          simp only [Gh.outO, hb, if_neg hTm, hfind, Option.map_some]
          rw [Nat.add_sub_cancel' (Nat.not_lt.1 hjm)]
        cases p with
        | nil =>
          simp only [At, Option.some.injEq, Prod.mk.injEq] at hat
          obtain ⟨rfl, rfl⟩ := hat
          have hhd : (g.outO m acc).hd j [] = cutv rows.length (g.hd T []) := by simp only [Gh.outO, if_neg hjm, hT, if_true]
          rcases h.node T e rows0 hroot [] e rows0 rfl with ⟨h1, h2⟩ | ⟨b, cap, cur, h1, h2, h3, h4, h5, h6, h7, h8⟩
          · subst h2
            have : rows = [] := by simpa using hrows
            subst this
            exact .inl ⟨by rw [hhd, h1]; rfl, rfl⟩
          · refine .inr ⟨b, cap, cur, by rw [hhd, h1]; rfl, hown b [] h2, h3, h4, by omega, h6, h7, fun i r hr => ?_⟩
            have hcp := hpr r (List.mem_of_getElem? hr)
            rw [hrows, List.getElem?_take] at hr
            split at hr
            · obtain ⟨h9, h10⟩ := h8 i r hr
              refine ⟨h9, fun k c hc => ?_⟩
              obtain ⟨u, h11, h12⟩ := h10 k c hc
              refine ⟨u, h11, ?_⟩
              have hhd2 : (g.outO m acc).hd j ([] ++ [(i, k)]) = g.hd T ([] ++ [(i, k)]) := by simp [Gh.outO, hjm, hT]
              rw [hhd2]
              have := hcp c (List.mem_of_getElem? hc)
              cases this <;> exact h12
            · cases hr
        | cons x q =>
          obtain ⟨i0, j0⟩ := x
          have hat' : At ((i0, j0) :: q) (.list e rows0) = some (e2, rows2) := by
            rw [hrows] at hat
            exact At_take hat
          have hhd : ∀ q', (g.outO m acc).hd j ((i0, j0) :: q') = g.hd T ((i0, j0) :: q') := fun q' => by simp [Gh.outO, hjm, hT]
          rcases h.node T e rows0 hroot _ e2 rows2 hat' with ⟨h1, h2⟩ | ⟨b, cap, cur, h1, h2, h3, h4, h5, h6, h7, h8⟩
          · exact .inl ⟨by rw [hhd]; exact h1, h2⟩
          · refine .inr ⟨b, cap, cur, by rw [hhd]; exact h1, hown b _ h2, h3, h4, h5, h6, h7, fun i r hr => ?_⟩
            obtain ⟨h9, h10⟩ := h8 i r hr
            refine ⟨h9, fun k c hc => ?_⟩
            obtain ⟨u, h11, h12⟩ := h10 k c hc
            refine ⟨u, h11, ?_⟩
            rw [List.cons_append, hhd]
            have := hpr2 r (List.mem_of_getElem? hr) c (List.mem_of_getElem? hc)
            cases this <;> exact h12
  · rw [hpE_out hl] at hj
    by_cases hjm : j < m
    · rw [if_pos hjm] at hj
      have hget : K2[j]? = some K2[j] := List.getElem?_eq_getElem (by omega)
      rw [hget, Option.getD_some] at hj
      have hk := hK j _ hget
      rw [hj] at hk
      obtain ⟨cs0, hbox, hlen, hc⟩ := hk
      obtain ⟨cur, e, b1, b2, b3⟩ := h.box j cs0 hbox
      refine ⟨cur, e, b1, by simp only [Gh.outO, b2], fun k d hd => ?_⟩
      have hlt : k < cs0.length := by rw [← hlen]; exact (List.getElem?_eq_some_iff.1 hd).1
      obtain ⟨n1, n2, u, n3, n4⟩ := b3 k cs0[k] (List.getElem?_eq_getElem hlt)
      exact ⟨n1, n2, u, n3, hc k _ d u (List.getElem?_eq_getElem hlt) hd n4⟩
    · rw [if_neg hjm] at hj
      cases hx : acc[j - m]? with
      | none => rw [hx] at hj; cases hj
      | some x => rw [hx] at hj; cases hj
  · rw [hpE_out hl] at hj
    by_cases hjm : j < m
    · rw [if_pos hjm] at hj
      have hget : K2[j]? = some K2[j] := List.getElem?_eq_getElem (by omega)
      rw [hget, Option.getD_some] at hj
      simp only [Gh.outO, if_pos hjm]
      have hk := hK j _ hget
      refine h.seen j ?_
      cases hx : K2[j] with
      | dead => rw [hx] at hj; cases hj
      | root e rows => rw [hx] at hk; simp [hk.1, Ent.live]
      | box cs => rw [hx] at hk; obtain ⟨_, hb, _⟩ := hk; simp [hb, Ent.live]
    · rw [if_neg hjm] at hj
      cases hx : acc[j - m]? with
      | none => rw [hx] at hj; cases hj
      | some x =>
        have := (List.getElem?_eq_some_iff.1 hx).1
        simp only [Gh.outO, if_neg hjm, decide_eq_true_eq]
        omega

def St.initO (args : List VV) (I : List Ent) (m n : Nat) : St := ⟨fun t => (args[t]?).getD .any, HpE I, m, n, none⟩
def RetQO (P : Program) (ty : Ty) (rs : List ResultVar) (m : Nat) (v : VV) (O : List Ent) : Exit → St → Prop
  | .normal, s => RetO P ty rs m v O s
  | .ret, s => RetO P ty rs m v O s
  | _, _ => False

theorem resultsO_ok (hT : TyOK P ty) (h : Rel P E g s a w) {fn : Func} {vs : List VV} (hv : vres ty s fn.results.toList = some vs) {H' : Heap} {v : VV} {acc acc' : List Out} (he : exOV m H' (wrap vs) acc = some (v, acc')) :
    ∃ val, (results fn a.tmps).run P w = .ok val w ∧ VRel P E s.H g (wrap vs) val := by
  obtain ⟨us, h1, h2, h3⟩ := results_run hT h _ _ hv
  have hr : (results fn a.tmps).run P w = .ok (if h : us.toArray.size = 1 then us.toArray[0] else .tuple us.toArray) w := by
    rw [results_eq, Array.mapM_eq_mapM_toList]
    simp only [Sem.run_bind, Sem.run_map, h1, Result.andThen_ok, Sem.run_pure]
  refine ⟨_, hr, ?_⟩
  match vs, us, h2, h3, he with
  | [], [], _, _, _ => exact undef_rel
  | [x], [u], _, h3, _ => exact h3 0 x u rfl rfl
  | x :: y :: vs, u1 :: u2 :: us, h2, h3, he =>
    have hw : wrap (x :: y :: vs) = .tup (x :: y :: vs) := rfl
    rw [hw] at he ⊢
    have hd : ¬ (u1 :: u2 :: us).toArray.size = 1 := by simp
    rw [dif_neg hd]
    refine ⟨_, rfl, h2, fun j c u hc hu => ?_⟩
    have := h3 j c u hc hu
    simp only [exOV] at he
    split at he
    · rename_i ys acc1 h1
      have hne := exOAs_ne h1 c (List.mem_of_getElem? hc)
      rwa [vrel_eq hne] at this
    · cases he

theorem satV_of_body (hT : TyOK P ty) {f : FuncId} {fn : Func} {c : Code} {args : List VV} {I : List Ent} {v : VV} {O : List Ent} (hf : P.funcs[f]? = some fn) (hname : (fn.name == "runtime.NumGoroutine") = false)
    (hb : fn.body = some c) {rs : List ResultVar} (hrs : fn.results.toList = rs) {n : Nat} (hn : fn.ntmps = n) (hlen : args.length ≤ n) (hout : outV v = true) {m : Nat} (hm : I.length = m) (hkept : keptLV I O)
    (hbody : ∀ E, PinLe E m → VWP P E c (RetQO P ty rs m v O) (St.initO args I m n)) : SatV P f args I v O := by
  subst hrs
  subst hn
  subst hm
  obtain ⟨kl, kk, kn⟩ := keptLV_spec hkept
  refine ⟨⟨fn, hf, hname, by rw [hb]; rfl⟩, hout, kl, kk, kn, fun E g0 w vals hw h hsn hvl hva => ?_⟩
  let E2 : Env := ⟨E.w0, E.own, HLe g0 (HpE I), fun g H g' H' h1 h2 => h2.trans h1, E.hid, E.hidOk⟩
  have hpe : PinLe E2 I.length := fun g H g' H' hw hp => by
    have hp : HLe g0 (HpE I) g H := hp
    have lt : ∀ T, g0.sn T = true → T < I.length := fun T hT => by
      rcases Nat.lt_or_ge T I.length with h | h
      · exact h
      · rw [hsn T h] at hT; cases hT
    have rt : ∀ T, T < I.length → (H' T).isRoot = true → (H T).isRoot = true := fun T hT hr => by
      cases hx : H' T with
      | root e rows' =>
        obtain ⟨rows, h1⟩ := (hw T hT).2.1 e rows' hx
        rw [h1]; rfl
      | _ => rw [hx] at hr; cases hr
    exact ⟨fun T hT => (hw T (lt T hT)).1 (hp.sn T hT), fun T e rows' hT hH => by
      obtain ⟨rows, hr⟩ := (hw T (lt T hT)).2.1 e rows' hH
      exact hp.root T e rows hT hr, fun T hT hl => hp.live T hT ((hw T (lt T hT)).2.2.1 hl), fun T hT hr => by
      rw [(hw T (lt T hT)).2.2.2.1]; exact hp.hd T hT (rt T (lt T hT) hr), fun T hT hl => by
      rw [(hw T (lt T hT)).2.2.2.2]; exact hp.bx T hT ((hw T (lt T hT)).2.2.1 hl)⟩
  have hh : HRel P E2 g0 (HpE I) w := ⟨⟨h.frm.os, h.frm.tape, h.frm.output, h.frm.size, h.frm.cells, h.frm.other⟩, h.node, h.box, h.seen⟩
  have hrel : Rel P E2 g0 (St.initO args I I.length fn.ntmps) { tmps := vals.toArray ++ Array.replicate (fn.ntmps - vals.toArray.size) undef, defers := [] } w := by
    refine ⟨by simp [St.initO]; omega, rfl, hh, fun T hT => hsn T hT.1, fun t => ?_, HLe.refl _ _⟩
    simp only [St.initO]
    cases ht : args[t]? with
    | none => trivial
    | some x =>
      have hlt : t < vals.length := by rw [hvl]; exact (List.getElem?_eq_some_iff.1 ht).1
      have hu : (vals.toArray ++ Array.replicate (fn.ntmps - vals.toArray.size) undef).getD t undef = vals[t] := by
        rw [Array.getD_eq_getD_getElem?, Array.getElem?_append_left (by simpa using hlt)]
        simp [hlt]
      rw [hu]
      exact vrel_of_arel (P := P) (E := E2) (hva t x _ ht (List.getElem?_eq_getElem hlt))
  refine calls_of_wp hf hb (Go.wp_mono (hbody E2 hpe _ _ _ hrel) fun e a w' he => ?_)
  have key : ∀ g s, Rel P E2 g s a w' → RetO P ty fn.results.toList I.length v O s → a.defers = [] ∧ ∃ val, (results fn a.tmps).run P w' = .ok val w' ∧
      ∃ val' g', Ending.returned val = .returned val' ∧ HRel P E g' (HpE O) w' ∧ (∀ T, O.length ≤ T → g'.sn T = false) ∧ HLe g0 (HpE I) g' (HpE O) ∧ VRel P E (HpE O) g' v val' := by
    intro g s h hr
    obtain ⟨ms, H', Ks, K2, acc1, vs, acc, r0, r1, r2, r3, r4, r5, r6, rfl⟩ := hr
    obtain ⟨val, k1, k2⟩ := resultsO_ok hT h r4 r5
    obtain ⟨g1, j1, j2⟩ := rel_merges h r0
    have k2 := vrel_mono j2 k2
    obtain ⟨⟨z1, _⟩, p2, p3, p4, p5⟩ := exEs_ok (P := P) (g := g1) r3
    obtain ⟨q1, q2, q3, q4⟩ := exOV_ok (P := P) (g := g1) r5
    have hacc : AccOK H' acc := q2 (p2 fun j x hj => by simp at hj)
    have hge : TokGe I.length acc := q3 (p3 fun x hx => by simp at hx)
    have hl : K2.length = I.length := by rw [p4, r1]
    have hkr : ∀ (k : Nat) (y : Ent), K2[k]? = some y → (K2 ++ acc.map rootOf)[k]? = some y := fun k y hk => by
      rw [List.getElem?_append_left (by have := (List.getElem?_eq_some_iff.1 hk).1; exact this)]; exact hk
    have hkeep : Keeps H' K2 := fun T hT => by
      cases hk : K2[T]? with
      | none => rw [hk] at hT; cases hT
      | some y =>
        rw [hk, Option.getD_some] at hT
        obtain ⟨x, hx, hy⟩ := p5 T y hk
        cases y with
        | dead => cases hT
        | box cs => cases hT
        | root e rows =>
          have : x = .root e rows := hy
          subst this
          rw [r2 T _ hx]; rfl
    have hpur : ∀ x ∈ acc, PurRows x.2.2 := fun x hx => by
      obtain ⟨j, hj⟩ := List.getElem?_of_mem hx
      exact kn (I.length + j) (rootOf x) (by omega) (by rw [← hl, List.getElem?_append_right (by omega), Nat.add_sub_cancel_left]; simp [hj])
    have hK : ∀ (k : Nat) (y : Ent), K2[k]? = some y → match y with
      | .dead => True
      | .root e rows => H' k = .root e rows ∧ PurRows rows
      | .box ys => ∃ cs, H' k = .box cs ∧ ys.length = cs.length ∧ ∀ (j : Nat) (c d : VV) (u : Value), cs[j]? = some c → ys[j]? = some d → CRel P E2 H' g1 c u → CRel P E2 (HpE (K2 ++ acc.map rootOf)) (g1.outO I.length acc) d u := by
      intro k y hk
      obtain ⟨x, hx, hy⟩ := p5 k y hk
      cases y with
      | dead => trivial
      | root e rows =>
        have : x = .root e rows := hy
        subst this
        refine ⟨r2 k _ hx, ?_⟩
        have hlt : k < I.length := by rw [← hl]; exact (List.getElem?_eq_some_iff.1 hk).1
        have := kk k I[k] _ (List.getElem?_eq_getElem hlt) (hkr k _ hk)
        cases hi : I[k] with
        | root e' rows' => rw [hi] at this; exact this.2
        | box cs => rw [hi] at this; exact this.elim
        | dead => rw [hi] at this; exact this.elim
      | box ys =>
        obtain ⟨cs, rfl, h2, h3⟩ := hy
        exact ⟨cs, r2 k _ hx, h2, fun j c d u hc hd hu => h3 E2 acc K2 q1 hl hkeep j c d u hc hd hu⟩
    have hfin := hrel_outO (m := I.length) j1.heap hacc r6 hge hpur hl hK
    have hpin : HLe g0 (HpE I) g1 H' := j1.pin
    have hv := q4 E2 K2 hl hkeep val k2
    have hsm : ∀ T, g0.sn T = true → T < I.length := fun T hT => by
      rcases Nat.lt_or_ge T I.length with c | c
      · exact c
      · rw [hsn T c] at hT; cases hT
    have hat : ∀ T, T < I.length → ∃ y, K2[T]? = some y ∧ HpE (K2 ++ acc.map rootOf) T = y ∧ ∃ x, Ks[T]? = some x := fun T hT => by
      have hg : K2[T]? = some K2[T] := List.getElem?_eq_getElem (by omega)
      obtain ⟨x, hx, _⟩ := p5 T _ hg
      exact ⟨K2[T], hg, by rw [hpE_out hl, if_pos hT, hg]; rfl, x, hx⟩
    have hle : HLe g0 (HpE I) (g1.outO I.length acc) (HpE (K2 ++ acc.map rootOf)) := by
      refine ⟨fun T hT => ?_, fun T e rows hT hr => ?_, fun T hT hr => ?_, fun T hT hr => ?_, fun T hT hr => ?_⟩
      · simp only [Gh.outO, if_pos (hsm T hT)]; exact hpin.sn T hT
      · obtain ⟨y, y1, y2, _⟩ := hat T (hsm T hT)
        rw [y2] at hr
        subst hr
        exact hpin.root T e rows hT (hK T _ y1).1
      · obtain ⟨y, y1, y2, _⟩ := hat T (hsm T hT)
        rw [y2] at hr
        refine hpin.live T hT ?_
        have := hK T y y1
        cases y with
        | dead => cases hr
        | root e rows => simp [this.1, Ent.live]
        | box ys => obtain ⟨cs, hb, _⟩ := this; simp [hb, Ent.live]
      · obtain ⟨y, y1, y2, _⟩ := hat T (hsm T hT)
        rw [y2] at hr
        simp only [Gh.outO, if_pos (hsm T hT)]
        refine hpin.hd T hT ?_
        have := hK T y y1
        cases y with
        | dead => cases hr
        | root e rows => simp [this.1, Ent.isRoot]
        | box ys => cases hr
      · obtain ⟨y, y1, y2, _⟩ := hat T (hsm T hT)
        rw [y2] at hr
        refine hpin.bx T hT ?_
        have := hK T y y1
        cases y with
        | dead => cases hr
        | root e rows => simp [this.1, Ent.live]
        | box ys => obtain ⟨cs, hb, _⟩ := this; simp [hb, Ent.live]
    refine ⟨h.defers, val, k1, val, g1.outO I.length acc, rfl, ⟨⟨hfin.frm.os, hfin.frm.tape, hfin.frm.output, hfin.frm.size, hfin.frm.cells, hfin.frm.other⟩, hfin.node, hfin.box, hfin.seen⟩, fun T hT => ?_, hle, hv⟩
    have : ¬ T < I.length + acc.length := by simp only [List.length_append, List.length_map, hl] at hT; omega
    have h2 : ¬ T < I.length := by omega
    simp only [Gh.outO, if_neg h2, this, decide_false]
  cases e with
  | normal => obtain ⟨g, s, h1, h2⟩ := he; exact key g s h1 h2
  | ret => obtain ⟨g, s, h1, h2⟩ := he; exact key g s h1 h2
  | exit i => obtain ⟨g, s, h1, h2⟩ := he; exact h2
  | _ => exact he.elim
theorem satO_of_body (hT : TyOK P ty) {f : FuncId} {fn : Func} {c : Code} {args : List VV} {I : List Ent} {v : VV} {O : List Ent} (hf : P.funcs[f]? = some fn) (hname : (fn.name == "runtime.NumGoroutine") = false)
    (hb : fn.body = some c) {rs : List ResultVar} (hrs : fn.results.toList = rs) {n : Nat} (hn : fn.ntmps = n) (hlen : args.length ≤ n) (hout : outV v = true) {m : Nat} (hm : I.length = m) (hkept : keptL I O)
    (hbody : ∀ E, PinLe E m → VWP P E c (RetQO P ty rs m v O) (St.initO args I m n)) : SatO P f args I v O := by
  obtain ⟨kl, kk, kn⟩ := keptL_spec hkept
  have hv := satV_of_body hT hf hname hb hrs hn hlen hout hm (keptLV_of hkept) hbody
  exact ⟨hv.fn, hv.out, hv.len, kk, hv.new, hv.run⟩
end
end Go.Proofs.Ytchkbgekmoileaa

/- The value-level engine, seventeenth part, c: a call that is the first thing done, told by its body. -/
namespace Go.Proofs.Ytchkbgekmoileaa
open Go Go.RowKit
set_option linter.unusedVariables false
set_option linter.unusedSimpArgs false

/-- What the body of such a call leaves. -/
def RetI (u : Nat) (v : VV) (H' : Heap) (k : Nat) (s : St) : Prop := s.tm u = v ∧ (∀ T, H' T = s.H T ∨ H' T = .dead) ∧ s.nx ≤ k ∧ s.lim = none
def RetQI (u : Nat) (v : VV) (H' : Heap) (k : Nat) : Exit → St → Prop
  | .normal, s => RetI u v H' k s
  | .ret, s => RetI u v H' k s
  | _, _ => False

section
variable {P : Program} {ty : Ty} {H H' : Heap}
theorem sem_of_body (hT : TyOK P ty) {f : FuncId} {fn : Func} {c : Code} {xs : List VV} {v : VV} {k : Nat} (hf : P.funcs[f]? = some fn) (hname : (fn.name == "runtime.NumGoroutine") = false)
    (hb : fn.body = some c) {u : Nat} (hrs : fn.results.toList = [.tmp u]) {n : Nat} (hn : fn.ntmps = n) (hlen : xs.length ≤ n) {nx : Nat} (hlow : ∀ T, T < nx → (H T).live = true)
    (hbody : ∀ E, VWP P E c (RetQI u v H' (nx + k)) ⟨fun t => (xs[t]?).getD .any, H, nx, n, none⟩) : SemRun P f xs H nx H' k v := by
  subst hn
  refine ⟨⟨fn, hf, hname, by rw [hb]; rfl⟩, fun E g s a w vals hH hnx hlim h hvl hva => ?_⟩
  subst hH
  subst hnx
  have hsn : ∀ T, s.nx ≤ T → g.sn T = false := fun T hT => h.fresh T ⟨hT, by rw [hlim]; trivial⟩
  let E2 : Env := ⟨E.w0, E.own, fun g' H2 => E.pin g' H2 ∧ HLe g s.H g' H2, fun g1 H1 g2 H2 h1 h2 => ⟨E.pinOk _ _ _ _ h1 h2.1, h2.2.trans h1⟩, E.hid, E.hidOk⟩
  have hh : HRel P E2 g s.H w := ⟨⟨h.heap.frm.os, h.heap.frm.tape, h.heap.frm.output, h.heap.frm.size, h.heap.frm.cells, h.heap.frm.other⟩, h.heap.node, h.heap.box, h.heap.seen⟩
  have hrel : Rel P E2 g ⟨fun t => (xs[t]?).getD .any, s.H, s.nx, fn.ntmps, none⟩ { tmps := vals.toArray ++ Array.replicate (fn.ntmps - vals.toArray.size) undef, defers := [] } w := by
    refine ⟨by simp; omega, rfl, hh, fun T hT => hsn T hT.1, fun t => ?_, h.pin, HLe.refl _ _⟩
    simp only
    cases ht : xs[t]? with
    | none => trivial
    | some x =>
      have hlt : t < vals.length := by rw [hvl]; exact (List.getElem?_eq_some_iff.1 ht).1
      have hu : (vals.toArray ++ Array.replicate (fn.ntmps - vals.toArray.size) undef).getD t undef = vals[t] := by
        rw [Array.getD_eq_getD_getElem?, Array.getElem?_append_left (by simpa using hlt)]
        simp [hlt]
      rw [hu]
      exact hva t x _ ht (List.getElem?_eq_getElem hlt)
  refine calls_of_wp hf hb (Go.wp_mono (hbody E2 _ _ _ hrel) fun e a' w' he => ?_)
  have key : ∀ g' s', Rel P E2 g' s' a' w' → RetI u v H' (s.nx + k) s' → a'.defers = [] ∧ ∃ val, (results fn a'.tmps).run P w' = .ok val w' ∧
      ∃ val' g2, Ending.returned val = .returned val' ∧ Rel P E g2 { s with H := H', nx := s.nx + k } a w' ∧ (∀ X, (s.nx ≤ X → s.nx + k ≤ X) → g2.sn X = g.sn X) ∧ VRel P E H' g2 v val' := by
    intro g' s' hr ⟨r1, r2, r3, r4⟩
    obtain ⟨us, k1, k2, k3⟩ := results_run hT hr fn.results.toList [s'.tm u] (by rw [hrs]; rfl)
    match us, k2, k3, k1 with
    | [x], _, k3, k1 =>
      have hres : (results fn a'.tmps).run P w' = .ok x w' := by
        rw [results_eq, Array.mapM_eq_mapM_toList]
        simp only [Sem.run_bind, Sem.run_map, k1, Result.andThen_ok, Sem.run_pure]
        rfl
      have hx : VRel P E2 s'.H g' (s'.tm u) x := k3 0 _ x rfl rfl
      have hle : HLe g s.H g' s'.H := hr.pin.2
      have hrelE : Rel P E g' { s with H := s'.H, nx := s'.nx } a w' := by
        refine ⟨h.size, h.defers, ⟨⟨hr.heap.frm.os, hr.heap.frm.tape, hr.heap.frm.output, hr.heap.frm.size, hr.heap.frm.cells, hr.heap.frm.other⟩, hr.heap.node, hr.heap.box, hr.heap.seen⟩, fun T hT => hr.fresh T ⟨hT.1, by rw [r4]; trivial⟩, fun t => vrel_mono hle (h.tmps t), hr.pin.1⟩
      have hwk := hrel_wk (P := P) (E := E) (g := g') (w := w') r2 hrelE.heap
      have hrel2 : Rel P E g' { s with H := H', nx := s.nx + k } a w' := rel_wk hrelE ⟨fun t => .inl rfl, r2, r3, rfl, hlim, hlim⟩
      refine ⟨hr.defers, x, hres, x, g', rfl, hrel2, fun X hX => ?_, ?_⟩
      · rcases Nat.lt_or_ge X s.nx with c | c
        · have h1 := h.heap.seen X (hlow X c)
          rw [h1]
          exact hle.sn X h1
        · rw [hsn X c]
          have := hX c
          exact hr.fresh X ⟨by omega, by rw [r4]; trivial⟩
      · rw [← r1]
        exact vrel_mono hwk.2 hx
  cases e with
  | normal => obtain ⟨g', s', h1, h2⟩ := he; exact key g' s' h1 h2
  | ret => obtain ⟨g', s', h1, h2⟩ := he; exact key g' s' h1 h2
  | exit i => obtain ⟨g', s', h1, h2⟩ := he; exact h2
  | _ => exact he.elim
/-- A loop that turns temporaries alone. -/
def NextT {X : Type} (tl : X → List (Nat × VV)) (μ : X → Nat) (J : X → Prop) (H : Heap) (nx N : Nat) (x : X) (s' : St) : Prop :=
  ∃ x', J x' ∧ μ x' < μ x ∧ (∀ p ∈ tl x', s'.tm p.1 = p.2) ∧ s'.H = H ∧ s'.nx = nx ∧ s'.N = N ∧ s'.lim = none
end
end Go.Proofs.Ytchkbgekmoileaa

/- The value-level engine, eighteenth part: regions whose order is open. -/
namespace Go.Proofs.Ytchkbgekmoileaa
open Go Go.RowKit
set_option linter.unusedVariables false
set_option linter.unusedSimpArgs false

def vstep (P : Program) (ty : Ty) (ops : Array Oper) (o : Oper) (s s' : St) : Prop := vop P ty ops o s (· = s')

def St.win (s : St) (lo hi : Nat) : St := { s with nx := lo, lim := some hi }
def St.nm (s : St) (n : Nat) : St := { s with nx := n, lim := none }

def tokP : VV → List Nat
  | .bp T _ => [T]
  | _ => []
def tokC : VV → List Nat
  | .clo _ caps => caps.flatMap tokP
  | .rf T _ => [T]
  | .bp T _ => [T]
  | .np T _ _ => [T]
  | .bs T _ _ _ => [T]
  | _ => []
def tokA : VV → List Nat
  | .agg vs => vs.flatMap tokC
  | x => tokC x
def toks : VV → List Nat
  | .tup vs => vs.flatMap tokA
  | x => tokA x

/-- Whoever reads a variable whole reads it and the slices that it holds. -/
def ptToks : VV → List Nat
  | .rf T _ => [T]
  | _ => []
/-- The tokens that a call may look at: those of its arguments, and those that lie in the variables that it is handed. -/
def deepC (H : Heap) (x : VV) : List Nat :=
  match x with
  | .bp T j => match H T with
    | .box cs => (cs.drop j).flatMap ptToks
    | _ => []
  | .clo _ caps => caps.flatMap fun c => match c with
    | .bp T j => (match H T with | .box cs => (cs.drop j).flatMap ptToks | _ => [])
    | _ => []
  | _ => []
def deepA (H : Heap) : VV → List Nat
  | .agg vs => vs.flatMap (deepC H)
  | x => deepC H x

def putf (d : Option Nat) (v : VV) (f : Nat → VV) : Nat → VV :=
  match d with
  | some d => updV d v f
  | none => f
def ov (n m : Nat) (δ H : Heap) : Heap := fun T => if n ≤ T ∧ T < m then δ T else H T
/-- What a quiet operation does: a value, and entries for tokens of its own. -/
def eff (d : Option Nat) (v : VV) (δ : Heap) (n' : Nat) (s : St) : St :=
  { s with tm := putf d v s.tm, H := ov s.nx n' δ s.H, nx := n' }

def dryOp (o : Oper) : Bool :=
  match o.op with
  | .move _ | .assign _ | .pick .. | .binOp .. | .unOp .. | .convert .. | .field .. | .index .. | .extract .. | .makeFunc .. | .build .. => true
  | _ => false
def quietOp (o : Oper) : Bool :=
  match o.op with
  | .store .. => false
  | .call c => match c.callee with
    | .builtin .append => false
    | _ => true
  | _ => true

/-- What an operation looks at is the same. -/
structure Agree (ops : Array Oper) (o : Oper) (s s2 : St) : Prop where
  nx : s2.nx = s.nx
  lim : s2.lim = s.lim
  N : s2.N = s.N
  tm : ∀ t ∈ o.looksAt ops, s2.tm t = s.tm t
  H : ∀ t ∈ o.looksAt ops, ∀ T ∈ toks (s.tm t), s2.H T = s.H T
  D : ∀ t ∈ o.looksAt ops, ∀ T ∈ deepA s.H (s.tm t), s2.H T = s.H T

section
variable {P : Program} {E : Env} {g g' : Gh} {s s2 s' : St} {a : Act} {w w' : World} {ty : Ty} {ops : Array Oper} {o : Oper}

theorem vop_ex {K : St → Prop} : vop P ty ops o s K ↔ ∃ s', vstep P ty ops o s s' ∧ K s' := by
  unfold vstep vop
  constructor
  · intro h
    split at h
    · split at h
      · rcases h with ⟨h1, v, l, h2, h3, s', h4, h5⟩ | ⟨h1, σ, v, O, h2, h3, h4, h5, h6, s', h7, h8⟩ | ⟨h1, H', k, v, h2, s', h7, h8⟩
        · exact ⟨s', .inl ⟨h1, v, l, h2, h3, s', h4, rfl⟩, h5⟩
        · exact ⟨s', .inr (.inl ⟨h1, σ, v, O, h2, h3, h4, h5, h6, s', h7, rfl⟩), h8⟩
        · exact ⟨s', .inr (.inr ⟨h1, H', k, v, h2, s', h7, rfl⟩), h8⟩
      · obtain ⟨s', h4, h5⟩ := h
        exact ⟨s', ⟨s', h4, rfl⟩, h5⟩
    · obtain ⟨s', h4, h5⟩ := h
      exact ⟨s', ⟨s', h4, rfl⟩, h5⟩
    · exact h.elim
  · rintro ⟨s', h, hk⟩
    split at h
    · split at h
      · rcases h with ⟨h1, v, l, h2, h3, s2, h4, rfl⟩ | ⟨h1, σ, v, O, h2, h3, h4, h5, h6, s2, h7, rfl⟩ | ⟨h1, H', k, v, h2, s2, h7, rfl⟩
        · exact .inl ⟨h1, v, l, h2, h3, s2, h4, hk⟩
        · exact .inr (.inl ⟨h1, σ, v, O, h2, h3, h4, h5, h6, s2, h7, hk⟩)
        · exact .inr (.inr ⟨h1, H', k, v, h2, s2, h7, hk⟩)
      · obtain ⟨s2, h4, rfl⟩ := h
        exact ⟨s2, h4, hk⟩
    · obtain ⟨s2, h4, rfl⟩ := h
      exact ⟨s2, h4, hk⟩
    · exact h.elim

theorem putd_putf {d : Option Nat} {x : VV} (h : s.putd d x = some s') : s' = { s with tm := putf d x s.tm } ∧ ∀ s2 : St, s2.N = s.N → s2.putd d x = some { s2 with tm := putf d x s2.tm } := by
  cases d with
  | none => simp only [St.putd, Option.some.injEq] at h; subst h; exact ⟨rfl, fun s2 _ => rfl⟩
  | some d =>
    simp only [St.putd] at h
    split at h
    · rename_i hd
      simp only [Option.some.injEq] at h; subst h
      refine ⟨rfl, fun s2 hN => ?_⟩
      simp only [St.putd]
      rw [if_pos (by rw [hN]; exact hd)]
      rfl
    · cases h

theorem vwant_agree (ht : ∀ t ∈ o.looksAt ops, s2.tm t = s.tm t) : vwant ops s2 o = vwant ops s o := by
  unfold vwant
  split
  · rfl
  · rename_i j want hg
    cases hd : (ops[j]?).bind (·.dst) with
    | none => rfl
    | some t =>
      simp only
      rw [ht t (by
        unfold Oper.looksAt
        refine List.mem_append_right _ ?_
        rw [hg]
        simp [hd])]

theorem mem_looks {t : Nat} (h : Operand.tmp t ∈ o.op.operands.toList) : t ∈ o.looksAt ops :=
  List.mem_append_left _ (List.mem_filterMap.2 ⟨.tmp t, h, rfl⟩)

theorem ev_agree (ht : ∀ t ∈ o.looksAt ops, s2.tm t = s.tm t) {x : Operand} (hx : x ∈ o.op.operands.toList) : ev s2 x = ev s x := by
  cases x with
  | tmp t => exact ht t (mem_looks hx)
  | _ => rfl

theorem H_agree (ht : ∀ t ∈ o.looksAt ops, ∀ T ∈ toks (s.tm t), s2.H T = s.H T) {x : Operand} (hx : x ∈ o.op.operands.toList) : ∀ T ∈ toks (ev s x), s2.H T = s.H T := by
  cases x with
  | tmp t => exact ht t (mem_looks hx)
  | const v =>
    intro T hT
    simp only [ev, ofConst] at hT
    split at hT <;> simp [toks, tokA, tokC] at hT
  | global n => intro T hT; simp [ev, toks, tokA, tokC] at hT
  | func n => intro T hT; simp [ev, toks, tokA, tokC] at hT

/-! ### Reading by what is looked at -/
theorem vLoad_agree {x : VV} {t : TypeId} (h : ∀ T ∈ toks x, s2.H T = s.H T) : vLoad ty s2 t x = vLoad ty s t x := by
  cases x <;> first | rfl | (have := h _ (List.mem_singleton.2 rfl); simp only [vLoad, this])
theorem vFieldAddr_agree {x : VV} {t : TypeId} {f : Nat} (h : ∀ T ∈ toks x, s2.H T = s.H T) : vFieldAddr ty s2 t x f = vFieldAddr ty s t x f := by
  cases x <;> first | rfl | (have := h _ (List.mem_singleton.2 rfl); simp only [vFieldAddr, this])
theorem vIndexAddr_agree {x i : VV} {t : TypeId} (h : ∀ T ∈ toks x, s2.H T = s.H T) : vIndexAddr ty s2 t x i = vIndexAddr ty s t x i := by
  cases x <;> first | rfl | (have := h _ (List.mem_singleton.2 rfl); simp only [vIndexAddr, this])
theorem vSlice_agree {x : VV} {t : TypeId} {lo hi : Option VV} (h : ∀ T ∈ toks x, s2.H T = s.H T) : vSlice ty s2 t x lo hi = vSlice ty s t x lo hi := by
  cases x <;> first | rfl | (have := h _ (List.mem_singleton.2 rfl); simp only [vSlice, this])
theorem vLen_agree {x : VV} {t : TypeId} (h : ∀ T ∈ toks x, s2.H T = s.H T) : vLen ty s2 t x = vLen ty s t x := by
  cases x <;> first | rfl | (have := h _ (List.mem_singleton.2 rfl); simp only [vLen, this])
theorem pt_agree {H H2 : Heap} {x : VV} (h : ∀ T ∈ ptToks x, H2 T = H T) : x.pt H2 = x.pt H ∧ (ptOk H2 x ↔ ptOk H x) := by
  cases x with
  | rf T n => have := h T (List.mem_singleton.2 rfl); simp only [VV.pt, ptOk, this, true_and]
  | _ => exact ⟨rfl, Iff.rfl⟩

theorem box_agree {H H2 : Heap} {T j : Nat} (h : H2 T = H T) (h2 : ∀ cs, H T = .box cs → ∀ X ∈ (cs.drop j).flatMap ptToks, H2 X = H X) :
    frzBox H2 T j = frzBox H T j ∧ ((match H2 T with | .box cs => ∀ x ∈ cs.drop j, ptOk H2 x | _ => False) ↔ (match H T with | .box cs => ∀ x ∈ cs.drop j, ptOk H x | _ => False)) := by
  simp only [frzBox, h]
  cases hT : H T with
  | box cs =>
    have h3 : ∀ x ∈ cs.drop j, x.pt H2 = x.pt H ∧ (ptOk H2 x ↔ ptOk H x) := fun x hx => pt_agree fun X hX => h2 cs hT X (List.mem_flatMap.2 ⟨x, hx, hX⟩)
    constructor
    · simp only [VV.fp.injEq]
      exact List.map_congr_left fun x hx => (h3 x hx).1
    · exact forall_congr' fun x => forall_congr' fun hx => (h3 x hx).2
  | _ => exact ⟨rfl, Iff.rfl⟩

theorem frzC_agree {H H2 : Heap} {x : VV} (h : ∀ T ∈ tokC x, H2 T = H T) (hd : ∀ T ∈ deepC H x, H2 T = H T) : frzC H2 x = frzC H x ∧ (frzOkC H2 x ↔ frzOkC H x) := by
  cases x with
  | rf T n => have := h T (List.mem_singleton.2 rfl); simp only [frzC, frzOkC, this, true_and]
  | bp T j =>
    have := box_agree (j := j) (h T (List.mem_singleton.2 rfl)) (fun cs hT X hX => hd X (by simp only [deepC, hT]; exact hX))
    exact ⟨this.1, this.2⟩
  | bs T j n e =>
    have h1 : H2 T = H T := h T (List.mem_singleton.2 rfl)
    simp only [frzC, frzSl, frzOkC, h1, true_and]
  | clo f caps =>
    have h3 : ∀ c ∈ caps, frzCap H2 c = frzCap H c ∧ (capsOk H2 c ↔ capsOk H c) := by
      intro c hc
      cases c with
      | bp T j =>
        have h4 : H2 T = H T := h T (by simp only [tokC, List.mem_flatMap]; exact ⟨_, hc, List.mem_singleton.2 rfl⟩)
        have := box_agree (j := j) h4 (fun cs hT X hX => hd X (by
          simp only [deepC, List.mem_flatMap]
          exact ⟨_, hc, by simp only [hT]; exact hX⟩))
        exact ⟨this.1, this.2⟩
      | _ => exact ⟨rfl, Iff.rfl⟩
    constructor
    · simp only [frzC, VV.clo.injEq, true_and]
      exact List.map_congr_left fun c hc => (h3 c hc).1
    · simp only [frzOkC]
      exact forall_congr' fun c => forall_congr' fun hc => (h3 c hc).2
  | _ => exact ⟨rfl, Iff.rfl⟩
theorem frzA_agree {H H2 : Heap} {x : VV} (h : ∀ T ∈ toks x, H2 T = H T) (hd : ∀ T ∈ deepA H x, H2 T = H T) : frzA H2 x = frzA H x ∧ (frzOk H2 x ↔ frzOk H x) := by
  cases x with
  | agg vs =>
    have h' : ∀ y ∈ vs, ∀ T ∈ tokC y, H2 T = H T := fun y hy T hT => h T (by simp only [toks, tokA, List.mem_flatMap]; exact ⟨y, hy, hT⟩)
    have hd' : ∀ y ∈ vs, ∀ T ∈ deepC H y, H2 T = H T := fun y hy T hT => hd T (by simp only [deepA, List.mem_flatMap]; exact ⟨y, hy, hT⟩)
    constructor
    · simp only [frzA, VV.agg.injEq]
      exact List.map_congr_left fun y hy => (frzC_agree (h' y hy) (hd' y hy)).1
    · simp only [frzOk]
      exact forall_congr' fun y => forall_congr' fun hy => (frzC_agree (h' y hy) (hd' y hy)).2
  | tup vs => exact ⟨rfl, Iff.rfl⟩
  | rf T n => exact frzC_agree (x := .rf T n) h hd
  | bp T n => exact frzC_agree (x := .bp T n) h hd
  | bs T j n e => exact frzC_agree (x := .bs T j n e) h hd
  | clo f c => exact frzC_agree (x := .clo f c) h hd
  | _ => exact ⟨rfl, Iff.rfl⟩

theorem retype_toks {t : TypeId} {x : VV} : toks (retype ty t x) = toks x := by
  unfold retype
  split
  · split <;> rfl
  · rfl

theorem flatMap_same {α β : Type} {f g : α → List β} : ∀ {l : List α}, (∀ x ∈ l, f x = g x) → l.flatMap f = l.flatMap g
  | [], _ => rfl
  | x :: l, h => by rw [List.flatMap_cons, List.flatMap_cons, h x (List.mem_cons_self ..), flatMap_same fun y hy => h y (List.mem_cons_of_mem _ hy)]

theorem deepA_agree {H H2 : Heap} {x : VV} (h : ∀ T ∈ toks x, H2 T = H T) : deepA H2 x = deepA H x := by
  have key : ∀ x : VV, (∀ T ∈ tokC x, H2 T = H T) → deepC H2 x = deepC H x := by
    intro x hx
    cases x with
    | bp T j => have := hx T (List.mem_singleton.2 rfl); simp only [deepC, this]
    | clo f caps =>
      simp only [deepC]
      have : ∀ c ∈ caps, (match c with | .bp T j => (match H2 T with | .box cs => (cs.drop j).flatMap ptToks | _ => []) | _ => ([] : List Nat)) = (match c with | .bp T j => (match H T with | .box cs => (cs.drop j).flatMap ptToks | _ => []) | _ => []) := by
        intro c hc
        cases c with
        | bp T j =>
          have := hx T (by simp only [tokC, List.mem_flatMap]; exact ⟨_, hc, List.mem_singleton.2 rfl⟩)
          simp only [this]
        | _ => rfl
      exact flatMap_same this
    | _ => rfl
  cases x with
  | agg vs =>
    simp only [deepA]
    exact flatMap_same fun y hy => key y fun T hT => h T (by simp only [toks, tokA, List.mem_flatMap]; exact ⟨y, hy, hT⟩)
  | tup vs => rfl
  | rf T n => exact key (.rf T n) h
  | bp T n => exact key (.bp T n) h
  | np T i j => exact key (.np T i j) h
  | clo f c => exact key (.clo f c) h
  | _ => rfl

theorem fcall_agree (htm : ∀ t ∈ o.looksAt ops, s2.tm t = s.tm t) : fcall s2 o = fcall s o := by
  unfold fcall
  cases ho : o.op with
  | call c =>
    simp only
    cases hc : c.callee with
    | value f =>
      cases f with
      | tmp t =>
        have : s2.tm t = s.tm t := htm t (mem_looks (by simp [ho, Op.operands, Call.operands, hc]))
        simp only [this]
      | _ => rfl
    | _ => rfl
  | _ => rfl

theorem D_agree (hD : ∀ t ∈ o.looksAt ops, ∀ T ∈ deepA s.H (s.tm t), s2.H T = s.H T) {x : Operand} (hx : x ∈ o.op.operands.toList) : ∀ T ∈ deepA s.H (ev s x), s2.H T = s.H T := by
  cases x with
  | tmp t => exact hD t (mem_looks hx)
  | const v =>
    intro T hT
    simp only [ev, ofConst] at hT
    split at hT <;> simp [deepA, deepC] at hT
  | global n => intro T hT; simp [ev, deepA, deepC] at hT
  | func n => intro T hT; simp [ev, deepA, deepC] at hT
theorem retype_deep {t : TypeId} {x : VV} {H : Heap} : deepA H (retype ty t x) = deepA H x := by
  unfold retype
  split
  · split <;> rfl
  · rfl

theorem handed_agree (htm : ∀ t ∈ o.looksAt ops, s2.tm t = s.tm t) (hH : ∀ t ∈ o.looksAt ops, ∀ T ∈ toks (s.tm t), s2.H T = s.H T) (hD : ∀ t ∈ o.looksAt ops, ∀ T ∈ deepA s.H (s.tm t), s2.H T = s.H T) : ∀ (xs : List Operand) (ts : List TypeId), (∀ x ∈ xs, x ∈ o.op.operands.toList) →
    handed ty s2 xs ts = handed ty s xs ts ∧ ∀ y ∈ handed ty s xs ts, (∀ T ∈ toks y, s2.H T = s.H T) ∧ ∀ T ∈ deepA s.H y, s2.H T = s.H T
  | [], ts, _ => by cases ts <;> exact ⟨rfl, fun y hy => by simp [handed] at hy⟩
  | x :: xs, [], hx => by
    obtain ⟨h1, h2⟩ := handed_agree htm hH hD xs [] fun y hy => hx y (List.mem_cons_of_mem _ hy)
    have h0 := hx x (List.mem_cons_self ..)
    refine ⟨by simp only [handed, h1, ev_agree htm h0], fun y hy => ?_⟩
    rcases List.mem_cons.1 hy with rfl | hy
    · exact ⟨H_agree hH h0, D_agree hD h0⟩
    · exact h2 y hy
  | x :: xs, t :: ts, hx => by
    obtain ⟨h1, h2⟩ := handed_agree htm hH hD xs ts fun y hy => hx y (List.mem_cons_of_mem _ hy)
    have h0 := hx x (List.mem_cons_self ..)
    refine ⟨by simp only [handed, h1, ev_agree htm h0], fun y hy => ?_⟩
    rcases List.mem_cons.1 hy with rfl | hy
    · rw [retype_toks, retype_deep]; exact ⟨H_agree hH h0, D_agree hD h0⟩
    · exact h2 y hy

theorem evParts_agree (htm : ∀ t ∈ o.looksAt ops, s2.tm t = s.tm t) {t : TypeId} {parts : Array (Nat × Operand)} (hx : ∀ p ∈ parts.toList, p.2 ∈ o.op.operands.toList) : evParts ty s2 t parts = evParts ty s t parts := by
  unfold evParts
  refine List.map_congr_left fun p hp => ?_
  rw [ev_agree htm (hx p hp)]

theorem vval_agree (htm : ∀ t ∈ o.looksAt ops, s2.tm t = s.tm t) (hH : ∀ t ∈ o.looksAt ops, ∀ T ∈ toks (s.tm t), s2.H T = s.H T) : vval ty s2 o = vval ty s o := by
  have he : ∀ {x : Operand}, x ∈ o.op.operands.toList → ev s2 x = ev s x := fun hx => ev_agree htm hx
  have hh : ∀ {x : Operand}, x ∈ o.op.operands.toList → ∀ T ∈ toks (ev s x), s2.H T = s.H T := fun hx => H_agree hH hx
  unfold vval
  cases ho : o.op with
  | move x => simp only [he (x := x) (by simp [ho, Op.operands])]
  | assign x => simp only [he (x := x) (by simp [ho, Op.operands])]
  | pick c x y => simp only [he (x := x) (by simp [ho, Op.operands]), he (x := y) (by simp [ho, Op.operands]), he (x := c) (by simp [ho, Op.operands])]
  | binOp op t x y t' => simp only [he (x := x) (by simp [ho, Op.operands]), he (x := y) (by simp [ho, Op.operands])]
  | unOp op t x => simp only [he (x := x) (by simp [ho, Op.operands])]
  | convert t t' x => simp only [he (x := x) (by simp [ho, Op.operands])]
  | load t x => simp only [he (x := x) (by simp [ho, Op.operands]), vLoad_agree (hh (x := x) (by simp [ho, Op.operands]))]
  | fieldAddr t x f => simp only [he (x := x) (by simp [ho, Op.operands]), vFieldAddr_agree (hh (x := x) (by simp [ho, Op.operands]))]
  | field t x f => simp only [he (x := x) (by simp [ho, Op.operands])]
  | indexAddr t x i => simp only [he (x := x) (by simp [ho, Op.operands]), he (x := i) (by simp [ho, Op.operands]), vIndexAddr_agree (hh (x := x) (by simp [ho, Op.operands]))]
  | index t x i => simp only [he (x := x) (by simp [ho, Op.operands]), he (x := i) (by simp [ho, Op.operands])]
  | extract x i => simp only [he (x := x) (by simp [ho, Op.operands])]
  | slice t x lo hi mx =>
    cases mx with
    | some m => rfl
    | none =>
      have h1 : lo.map (ev s2) = lo.map (ev s) := by
        cases lo with
        | none => rfl
        | some l => simp only [Option.map_some, he (x := l) (by simp [ho, Op.operands])]
      have h2 : hi.map (ev s2) = hi.map (ev s) := by
        cases hi with
        | none => rfl
        | some l => simp only [Option.map_some, he (x := l) (by simp [ho, Op.operands])]
      simp only [he (x := x) (by simp [ho, Op.operands]), h1, h2, vSlice_agree (hh (x := x) (by simp [ho, Op.operands]))]
  | nilCheck x =>
    have h1 := hh (x := x) (by simp [ho, Op.operands])
    simp only [he (x := x) (by simp [ho, Op.operands])]
    generalize ev s x = v at h1
    cases v <;> first | rfl | (have := h1 _ (List.mem_singleton.2 rfl); simp only [this])
  | makeFunc fn fi ca =>
    have h1 : ca.toList.map (ev s2) = ca.toList.map (ev s) := List.map_congr_left fun x hx => he (by
      simp only [ho, Op.operands, Array.toList_append]
      exact List.mem_append_right _ hx)
    cases fn <;> first | rfl | simp only [h1]
  | call c =>
    simp only
    cases hc : c.callee with
    | builtin b =>
      simp only
      have h0 : ∀ x ∈ c.args.toList, x ∈ o.op.operands.toList := fun x hx => by
        simp only [ho, Op.operands, Call.operands, Array.toList_append]
        exact List.mem_append_right _ hx
      have h1 : c.args.toList.map (ev s2) = c.args.toList.map (ev s) := List.map_congr_left fun x hx => he (h0 x hx)
      rw [h1]
      cases b <;> try rfl
      simp only [vBuiltin]
      split
      · rename_i x t hx ht
        obtain ⟨y, hy, rfl⟩ := map_one hx
        exact vLen_agree (hh (h0 y (by rw [hy]; exact List.mem_singleton.2 rfl)))
      · rfl
    | _ => rfl
  | _ => rfl

/-! ### Quiet operations -/

theorem ov_nil (n : Nat) (δ H : Heap) : ov n n δ H = H := by
  funext T
  have : ¬ (n ≤ T ∧ T < n) := by omega
  simp only [ov, if_neg this]
theorem ov_one (n : Nat) (e : Ent) (H : Heap) : updH n e H = ov n (n + 1) (fun _ => e) H := by
  funext T
  by_cases h : T = n
  · subst h
    have : T ≤ T ∧ T < T + 1 := by omega
    simp only [updH_same, ov, if_pos this]
  · have : ¬ (n ≤ T ∧ T < n + 1) := by omega
    simp only [updH_ne _ _ h, ov, if_neg this]
theorem ov_ov {n m k : Nat} (h1 : n ≤ m) (h2 : m ≤ k) (δ ε H : Heap) : ov m k ε (ov n m δ H) = ov n k (fun T => if T < m then δ T else ε T) H := by
  funext T
  simp only [ov]
  by_cases c1 : m ≤ T ∧ T < k
  · rw [if_pos c1, if_pos (by omega), if_neg (by omega)]
  · rw [if_neg c1]
    by_cases c2 : n ≤ T ∧ T < m
    · rw [if_pos c2, if_pos (by omega), if_pos c2.2]
    · rw [if_neg c2, if_neg (by omega)]

theorem toCells_loc : ∀ {vs : List VV} {n : Nat} {H : Heap} {ps : List PT} {m : Nat} {H' : Heap}, toCells vs n H = some (ps, m, H') → n ≤ m ∧ ∃ δ, ∀ H2, toCells vs n H2 = some (ps, m, ov n m δ H2)
  | [], n, H, ps, m, H', h => by
    simp only [toCells, Option.some.injEq, Prod.mk.injEq] at h
    obtain ⟨rfl, rfl, rfl⟩ := h
    exact ⟨Nat.le_refl _, fun _ => .dead, fun H2 => by simp only [toCells, ov_nil]⟩
  | v :: vs, n, H, ps, m, H', h => by
    by_cases hv : ∃ e, v = .nl e
    · obtain ⟨e, rfl⟩ := hv
      simp only [toCells] at h ⊢
      cases hr : toCells vs (n + 1) (updH n (.root e []) H) with
      | none => rw [hr] at h; cases h
      | some z =>
        obtain ⟨ps', m', H1⟩ := z
        rw [hr] at h
        simp only [Option.some.injEq, Prod.mk.injEq] at h
        obtain ⟨rfl, rfl, rfl⟩ := h
        obtain ⟨h1, δ, h2⟩ := toCells_loc hr
        refine ⟨by omega, fun T => if T < n + 1 then .root e [] else δ T, fun H2 => ?_⟩
        rw [h2, ov_one, ov_ov (by omega) h1]
    · have ht : ∀ H, toCells (v :: vs) n H = (match v.cell, toCells vs n H with | some c, some (ps, m, H') => some (c :: ps, m, H') | _, _ => none) := fun H => by
        cases v <;> first | rfl | exact absurd ⟨_, rfl⟩ hv
      rw [ht] at h
      cases hcv : v.cell with
      | none => rw [hcv] at h; cases h
      | some c0 =>
        cases hr : toCells vs n H with
        | none => rw [hcv, hr] at h; cases h
        | some z =>
          obtain ⟨ps', m', H1⟩ := z
          rw [hcv, hr] at h
          simp only [Option.some.injEq, Prod.mk.injEq] at h
          obtain ⟨rfl, rfl, rfl⟩ := h
          obtain ⟨h1, δ, h2⟩ := toCells_loc hr
          exact ⟨h1, δ, fun H2 => by rw [ht, hcv, h2]⟩

theorem eff_putd {d : Option Nat} {x : VV} {δ : Heap} {n' : Nat} (h : ({ s with H := ov s.nx n' δ s.H, nx := n' } : St).putd d x = some s') :
    s' = eff d x δ n' s ∧ ∀ s2 : St, s2.N = s.N → ({ s2 with H := ov s2.nx n' δ s2.H, nx := n' } : St).putd d x = some (eff d x δ n' s2) := by
  obtain ⟨h1, h2⟩ := putd_putf h
  exact ⟨h1, fun s2 hN => h2 { s2 with H := ov s2.nx n' δ s2.H, nx := n' } hN⟩

theorem room_le {k : Nat} (h : s.room k = true) : ∀ m, s.lim = some m → s.nx + k ≤ m := by
  intro m hm
  simpa [St.room, hm] using h

theorem vexec_loc (hq : quietOp o = true) (h : vexec ty s o = some s') : ∃ v δ n', s.nx ≤ n' ∧ (∀ m, s.lim = some m → s.nx ≤ m → n' ≤ m) ∧ s' = eff o.dst v δ n' s ∧ ∀ s2, Agree ops o s s2 → vexec ty s2 o = some (eff o.dst v δ n' s2) := by
  have hroom : ∀ s2 k, Agree ops o s s2 → s2.room k = s.room k := fun s2 k ha => by simp only [St.room, ha.lim, ha.nx]
  have hbox : ∀ vs, xBox s vs o.dst = some s' → ∃ v δ n', s.nx ≤ n' ∧ (∀ m, s.lim = some m → s.nx ≤ m → n' ≤ m) ∧ s' = eff o.dst v δ n' s ∧ ∀ s2, Agree ops o s s2 → xBox s2 vs o.dst = some (eff o.dst v δ n' s2) := by
    intro vs hx
    unfold xBox at hx
    split at hx
    · cases hx
    · rename_i hc
      rw [ov_one] at hx
      obtain ⟨h1, h2⟩ := eff_putd hx
      have hr : s.room 1 = true := by
        cases hq : s.room 1 with
        | true => rfl
        | false => exact absurd (.inr hq) hc
      refine ⟨_, _, _, Nat.le_succ _, fun m hm _ => room_le hr m hm, h1, fun s2 ha => ?_⟩
      unfold xBox
      rw [if_neg (by rw [hroom s2 1 ha]; exact hc), ov_one]
      have := h2 s2 ha.N
      rw [ha.nx] at this ⊢
      exact this
  have hval : (vval ty s o).bind (s.putd o.dst) = some s' → ∃ v δ n', s.nx ≤ n' ∧ (∀ m, s.lim = some m → s.nx ≤ m → n' ≤ m) ∧ s' = eff o.dst v δ n' s ∧ ∀ s2, Agree ops o s s2 → (vval ty s2 o).bind (s2.putd o.dst) = some (eff o.dst v δ n' s2) := by
    intro hx
    cases hv : vval ty s o with
    | none => rw [hv] at hx; cases hx
    | some x =>
      rw [hv] at hx
      have hx : s.putd o.dst x = some s' := hx
      obtain ⟨h1, h2⟩ := putd_putf hx
      refine ⟨x, fun _ => .dead, s.nx, Nat.le_refl _, fun m _ hm => hm, ?_, fun s2 ha => ?_⟩
      · rw [h1]
        simp only [eff, ov_nil]
      · rw [vval_agree ha.tm ha.H, hv]
        show s2.putd o.dst x = _
        rw [h2 s2 ha.N]
        simp only [eff, ← ha.nx, ov_nil]
  unfold vexec at h ⊢
  cases ho : o.op with
  | alloc t =>
    simp only [ho] at h ⊢
    split at h
    · rename_i d hd; exact hbox _ h
    · cases h
  | box t x =>
    simp only [ho] at h ⊢
    split at h
    · rename_i vs hvs
      obtain ⟨v, δ, n', h1, h2, h3, h4⟩ := hbox _ h
      refine ⟨v, δ, n', h1, h2, h3, fun s2 ha => ?_⟩
      rw [ev_agree ha.tm (x := x) (by simp [ho, Op.operands]), hvs]
      exact h4 s2 ha
    · cases h
  | store t x y => simp [quietOp, ho] at hq
  | build t parts =>
    simp only [ho] at h ⊢
    have hev : ∀ s2, Agree ops o s s2 → evParts ty s2 t parts = evParts ty s t parts := fun s2 ha => evParts_agree ha.tm (by
      intro p hp
      simp only [ho, Op.operands, List.mem_map]
      exact ⟨p, hp, rfl⟩)
    cases hv : vBuild ty t (evParts ty s t parts) with
    | none => rw [hv] at h; cases h
    | some x =>
      rw [hv] at h
      have hx : s.putd o.dst x = some s' := h
      obtain ⟨h1, h2⟩ := putd_putf hx
      refine ⟨x, fun _ => .dead, s.nx, Nat.le_refl _, fun m _ hm => hm, ?_, fun s2 ha => ?_⟩
      · rw [h1]
        simp only [eff, ov_nil]
      · rw [hev s2 ha, hv]
        show s2.putd o.dst x = _
        rw [h2 s2 ha.N]
        simp only [eff, ← ha.nx, ov_nil]
  | buildSlice t len parts =>
    simp only [ho] at h ⊢
    have hev : ∀ s2, Agree ops o s s2 → evParts ty s2 t parts = evParts ty s t parts := fun s2 ha => evParts_agree ha.tm (by
      intro p hp
      simp only [ho, Op.operands, List.mem_map]
      exact ⟨p, hp, rfl⟩)
    unfold xBuildSlice at h
    split at h
    · rename_i e _ _ _ ht
      split at h
      · rename_i d hde
        split at h
        · cases h
        · rename_i hc
          split at h
          · rename_i flat hfl
            split at h
            · rename_i ps n H2 htc
              split at h
              · rename_i hr
                obtain ⟨hle, δ, hδ⟩ := toCells_loc htc
                have hH2 : H2 = ov s.nx n δ s.H := by
                  have := hδ s.H
                  rw [htc] at this
                  simp only [Option.some.injEq, Prod.mk.injEq, true_and] at this
                  exact this
                rw [hH2, ov_one, ov_ov hle (Nat.le_succ _)] at h
                obtain ⟨h1, h2⟩ := eff_putd h
                refine ⟨_, _, _, by omega, fun m hm _ => ?_, h1, fun s2 ha => ?_⟩
                · have := room_le hr m hm
                  omega
                · unfold xBuildSlice
                  simp only [ht, hde, if_neg hc, hev s2 ha, hfl, ha.nx, hδ s2.H, hroom s2 _ ha, hr, if_true]
                  rw [ov_one, ov_ov hle (Nat.le_succ _)]
                  have := h2 s2 ha.N
                  rw [ha.nx] at this
                  exact this
              · cases h
            · cases h
          · cases h
      · cases h
    · cases h
  | makeSlice t l c =>
    simp only [ho] at h ⊢
    have hl : ∀ s2, Agree ops o s s2 → ev s2 l = ev s l := fun s2 ha => ev_agree ha.tm (by simp [ho, Op.operands])
    have hc' : ∀ s2, Agree ops o s s2 → ev s2 c = ev s c := fun s2 ha => ev_agree ha.tm (by simp [ho, Op.operands])
    unfold xMake at h
    split at h
    · rename_i e _ _ _ k n k' m ht hln hcm
      split at h
      · rename_i d hde
        split at h
        · rename_i hc
          rw [ov_one] at h
          obtain ⟨h1, h2⟩ := eff_putd h
          refine ⟨_, _, _, Nat.le_succ _, fun m hm _ => room_le hc.2.2.2.2.2.2 m hm, h1, fun s2 ha => ?_⟩
          unfold xMake
          rw [hl s2 ha, hc' s2 ha, ht, hln, hcm]
          simp only [hde]
          rw [if_pos (by rw [hroom s2 _ ha]; exact hc), ov_one]
          have := h2 s2 ha.N
          rw [ha.nx] at this ⊢
          exact this
        · cases h
      · cases h
    · cases h
  | call c =>
    simp only [ho] at h ⊢
    cases hcal : c.callee with
    | builtin b =>
      rw [hcal] at h
      have hb : b ≠ .append := fun hh => by rw [hh] at hcal; simp [quietOp, ho, hcal] at hq
      cases b <;> first | exact absurd rfl hb | exact hval h
    | value v => rw [hcal] at h; exact hval h
    | invoke r m => rw [hcal] at h; exact hval h
  | _ =>
    simp only [ho] at h ⊢
    exact hval h
end
end Go.Proofs.Ytchkbgekmoileaa

/- The value-level engine, nineteenth part: two operations of a region in either order. -/
namespace Go.Proofs.Ytchkbgekmoileaa
open Go Go.RowKit
set_option linter.unusedVariables false
set_option linter.unusedSimpArgs false

section
variable {P : Program} {E : Env} {g g' : Gh} {s s2 s' : St} {a : Act} {w w' : World} {ty : Ty} {ops : Array Oper} {o : Oper}

theorem addH_ov (n : Nat) (l : List (TypeId × List (List PT))) (H : Heap) : addH n l H = ov n (n + l.length) (fun T => Hp l (T - n)) H := by
  funext T
  rw [addH_eq]
  rfl

theorem put_eff {d : Option Nat} {v : VV} : ({ s with tm := putf d v s.tm } : St) = eff d v (fun _ => .dead) s.nx s := by
  simp only [eff, ov_nil]

theorem fcall_mem {f : FuncId} {xs : List Operand} {ts : List TypeId} {caps : List VV} (h : fcall s o = some (f, xs, ts, caps)) : (∀ x ∈ xs, x ∈ o.op.operands.toList) ∧
    (caps = [] ∨ ∃ t ∈ o.looksAt ops, s.tm t = .clo f caps ∧ caps.all capOk = true) := by
  rcases fcall_spec h with ⟨h1, this⟩ | ⟨t, h1, h2, this⟩
  · refine ⟨fun x hx => ?_, .inl h1⟩
    rw [this]
    simp only [Op.operands, Call.operands, Array.toList_append]
    exact List.mem_append_right _ (by simpa using hx)
  · refine ⟨fun x hx => ?_, .inr ⟨t, mem_looks ?_, h1, h2⟩⟩
    · rw [this]
      simp only [Op.operands, Call.operands, Array.toList_append]
      exact List.mem_append_right _ (by simpa using hx)
    · rw [this]
      simp [Op.operands, Call.operands]

theorem vstep_quiet (hl : s.lim ≠ none) (hq : quietOp o = true) (h : vstep P ty ops o s s') : ∃ v δ n', s.nx ≤ n' ∧ (∀ m, s.lim = some m → s.nx ≤ m → n' ≤ m) ∧ s' = eff o.dst v δ n' s ∧ ∀ s2, Agree ops o s s2 → vstep P ty ops o s2 (eff o.dst v δ n' s2) := by
  unfold vstep vop at h
  split at h
  · rename_i hw
    have hw2 : ∀ s2, Agree ops o s s2 → vwant ops s2 o = some true := fun s2 ha => by rw [vwant_agree ha.tm, hw]
    split at h
    · rename_i f xs ts caps hf
      replace h := h.resolve_right fun hh => hh.elim (fun hh => hl hh.1) fun hh => hl hh.1
      obtain ⟨hok, v, l, hS, hroom, s1, hput, hk⟩ := h
      subst hk
      have hput' : ({ s with H := ov s.nx (s.nx + l.length) (fun T => Hp l (T - s.nx)) s.H, nx := s.nx + l.length } : St).putd o.dst (shV s.nx v) = some s1 := by
        rw [← addH_ov]; exact hput
      obtain ⟨h1, h2⟩ := eff_putd hput'
      refine ⟨_, _, _, Nat.le_add_right _ _, fun m hm _ => room_le hroom m hm, h1, fun s2 ha => ?_⟩
      obtain ⟨mx, mc⟩ := fcall_mem (ops := ops) hf
      obtain ⟨k1, k2⟩ := handed_agree (ty := ty) ha.tm ha.H ha.D xs ts mx
      have k3 : ∀ x ∈ handed ty s xs ts ++ caps, frzA s2.H x = frzA s.H x ∧ (frzOk s2.H x ↔ frzOk s.H x) := by
        intro x hx
        rcases List.mem_append.1 hx with hx' | hx'
        · exact frzA_agree (k2 x hx').1 (k2 x hx').2
        · rcases mc with rfl | ⟨t, ht, htm, hall⟩
          · simp at hx'
          · have h1 := ha.H t ht
            have h2 := ha.D t ht
            rw [htm] at h1 h2
            have hokx := List.all_eq_true.mp hall x hx'
            cases x with
            | bp T j => exact frzA_agree (x := .bp T j) (fun X hX => h1 X (by
                simp only [toks, tokA, tokC, List.mem_flatMap]
                exact ⟨_, hx', hX⟩)) (fun X hX => h2 X (by simp only [deepA, deepC, List.mem_flatMap]; exact ⟨_, hx', hX⟩))
            | fp row => exact ⟨rfl, Iff.rfl⟩
            | _ => simp [capOk] at hokx
      unfold vstep vop
      rw [hw2 s2 ha, fcall_agree ha.tm, hf]
      simp only
      refine .inl ⟨fun x hx => ?_, v, l, ?_, ?_, _, ?_, rfl⟩
      · rw [k1] at hx
        exact (k3 x hx).2.2 (hok x hx)
      · rw [k1]
        have : (handed ty s xs ts ++ caps).map (frzA s2.H) = (handed ty s xs ts ++ caps).map (frzA s.H) := List.map_congr_left fun x hx => (k3 x hx).1
        rw [this]
        exact hS
      · simp only [St.room, ha.lim, ha.nx]; exact hroom
      · have := h2 s2 ha.N
        rw [ha.nx] at this ⊢
        show ({ s2 with H := addH s2.nx l s2.H, nx := s2.nx + l.length } : St).putd o.dst _ = _
        rw [addH_ov, ha.nx]
        exact this
    · rename_i hf
      obtain ⟨s1, hx, hk⟩ := h
      subst hk
      obtain ⟨v, δ, n', h1, h2, h3, h4⟩ := vexec_loc (ops := ops) hq hx
      refine ⟨v, δ, n', h1, h2, h3, fun s2 ha => ?_⟩
      unfold vstep vop
      rw [hw2 s2 ha, fcall_agree ha.tm, hf]
      exact ⟨_, h4 s2 ha, rfl⟩
  · rename_i hw
    obtain ⟨s1, hput, hk⟩ := h
    subst hk
    obtain ⟨h1, h2⟩ := putd_putf hput
    rw [put_eff] at h1
    refine ⟨_, _, _, Nat.le_refl _, fun m _ hm => hm, h1, fun s2 ha => ?_⟩
    unfold vstep vop
    rw [vwant_agree ha.tm, hw]
    refine ⟨_, h2 s2 ha.N, ?_⟩
    rw [put_eff, ha.nx]
  · exact h.elim

theorem dry_vval (hd : dryOp o = true) (htm : ∀ t ∈ o.looksAt ops, s2.tm t = s.tm t) : vexec ty s2 o = (match o.op with | .build t parts => (vBuild ty t (evParts ty s t parts)).bind (s2.putd o.dst) | _ => (vval ty s o).bind (s2.putd o.dst)) := by
  have he : ∀ {x : Operand}, x ∈ o.op.operands.toList → ev s2 x = ev s x := fun hx => ev_agree htm hx
  unfold vexec
  cases ho : o.op with
  | move x => simp only [vval, ho, he (x := x) (by simp [ho, Op.operands])]
  | assign x => simp only [vval, ho, he (x := x) (by simp [ho, Op.operands])]
  | pick c x y => simp only [vval, ho, he (x := x) (by simp [ho, Op.operands]), he (x := y) (by simp [ho, Op.operands]), he (x := c) (by simp [ho, Op.operands])]
  | binOp op t x y t' => simp only [vval, ho, he (x := x) (by simp [ho, Op.operands]), he (x := y) (by simp [ho, Op.operands])]
  | unOp op t x => simp only [vval, ho, he (x := x) (by simp [ho, Op.operands])]
  | convert t t' x => simp only [vval, ho, he (x := x) (by simp [ho, Op.operands])]
  | field t x f => simp only [vval, ho, he (x := x) (by simp [ho, Op.operands])]
  | index t x i => simp only [vval, ho, he (x := x) (by simp [ho, Op.operands]), he (x := i) (by simp [ho, Op.operands])]
  | extract x i => simp only [vval, ho, he (x := x) (by simp [ho, Op.operands])]
  | makeFunc fn fi ca =>
    have h1 : ca.toList.map (ev s2) = ca.toList.map (ev s) := List.map_congr_left fun x hx => he (by
      simp only [ho, Op.operands, Array.toList_append]
      exact List.mem_append_right _ hx)
    cases fn <;> simp only [vval, ho, h1]
  | build t parts =>
    simp only
    rw [evParts_agree htm (by
      intro p hp
      simp only [ho, Op.operands, List.mem_map]
      exact ⟨p, hp, rfl⟩)]
  | _ => simp [dryOp, ho] at hd

theorem dry_fcall (s : St) (hd : dryOp o = true) : fcall s o = none := by
  unfold fcall
  cases ho : o.op <;> first | rfl | (simp [dryOp, ho] at hd)

theorem vstep_dry (hd : dryOp o = true) (h : vstep P ty ops o s s') : ∃ v, s' = { s with tm := putf o.dst v s.tm } ∧ ∀ s2 : St, (∀ t ∈ o.looksAt ops, s2.tm t = s.tm t) → s2.N = s.N → vstep P ty ops o s2 { s2 with tm := putf o.dst v s2.tm } := by
  unfold vstep vop at h
  rw [dry_fcall s hd] at h
  split at h
  · rename_i hw
    obtain ⟨s1, hx, hk⟩ := h
    subst hk
    have key : ∃ x, s.putd o.dst x = some s1 ∧ ∀ s2 : St, (∀ t ∈ o.looksAt ops, s2.tm t = s.tm t) → vexec ty s2 o = s2.putd o.dst x := by
      have h0 := dry_vval (ty := ty) (s := s) (s2 := s) (ops := ops) hd (fun _ _ => rfl)
      rw [hx] at h0
      by_cases hb : ∃ t parts, o.op = .build t parts
      · obtain ⟨t, parts, ho⟩ := hb
        simp only [ho] at h0
        cases hv : vBuild ty t (evParts ty s t parts) with
        | none => rw [hv] at h0; cases h0
        | some x =>
          rw [hv] at h0
          refine ⟨x, h0.symm, fun s2 ht => ?_⟩
          rw [dry_vval hd ht]
          simp only [ho, hv]
          rfl
      · have hm : ∀ s2 : St, (match o.op with | .build t parts => (vBuild ty t (evParts ty s t parts)).bind (s2.putd o.dst) | _ => (vval ty s o).bind (s2.putd o.dst)) = (vval ty s o).bind (s2.putd o.dst) := fun s2 => by
          split
          · rename_i t parts ho; exact absurd ⟨t, parts, ho⟩ hb
          · rfl
        rw [hm] at h0
        cases hv : vval ty s o with
        | none => rw [hv] at h0; cases h0
        | some x =>
          rw [hv] at h0
          refine ⟨x, h0.symm, fun s2 ht => ?_⟩
          rw [dry_vval hd ht, hm, hv]
          rfl
    obtain ⟨x, hput, hall⟩ := key
    obtain ⟨h1, h2⟩ := putd_putf hput
    refine ⟨x, h1, fun s2 ht hN => ?_⟩
    unfold vstep vop
    rw [vwant_agree ht, hw, dry_fcall s2 hd]
    exact ⟨_, by rw [hall s2 ht]; exact h2 s2 hN, rfl⟩
  · rename_i hw
    obtain ⟨s1, hput, hk⟩ := h
    subst hk
    obtain ⟨h1, h2⟩ := putd_putf hput
    refine ⟨_, h1, fun s2 ht hN => ?_⟩
    unfold vstep vop
    rw [vwant_agree ht, hw]
    exact ⟨_, h2 s2 hN, rfl⟩
  · exact h.elim

/-- Whatever an operation does, it does it wherever it sees the same. -/
theorem vstep_wild (hl : s.lim ≠ none) (h : vstep P ty ops o s s') : ∃ v H' n', s.nx ≤ n' ∧ (∀ m, s.lim = some m → s.nx ≤ m → n' ≤ m) ∧ s' = { s with tm := putf o.dst v s.tm, H := H', nx := n' } ∧
    ∀ s2 : St, (∀ t ∈ o.looksAt ops, s2.tm t = s.tm t) → s2.H = s.H → s2.nx = s.nx → s2.lim = s.lim → s2.N = s.N → vstep P ty ops o s2 { s2 with tm := putf o.dst v s2.tm, H := H', nx := n' } := by
  by_cases hq : quietOp o = true
  · obtain ⟨v, δ, n', h1, h2, h3, h4⟩ := vstep_quiet hl hq h
    refine ⟨v, ov s.nx n' δ s.H, n', h1, h2, h3, fun s2 ht hH hn hl hN => ?_⟩
    have := h4 s2 ⟨hn, hl, hN, ht, fun t _ T _ => by rw [hH], fun t _ T _ => by rw [hH]⟩
    simp only [eff, hn, hH] at this
    exact this
  · unfold vstep vop at h
    split at h
    · rename_i hw
      have hf : ∀ s, fcall s o = none := by
        intro s
        unfold fcall
        cases ho : o.op <;> try rfl
        rename_i c
        simp only
        cases hc : c.callee <;> try rfl
        simp [quietOp, ho, hc] at hq
      rw [hf] at h
      obtain ⟨s1, hx, hk⟩ := h
      subst hk
      have fin : (∃ v H' n', s.nx ≤ n' ∧ (∀ m, s.lim = some m → s.nx ≤ m → n' ≤ m) ∧ s1 = { s with tm := putf o.dst v s.tm, H := H', nx := n' } ∧
          ∀ s2 : St, (∀ t ∈ o.looksAt ops, s2.tm t = s.tm t) → s2.H = s.H → s2.nx = s.nx → s2.lim = s.lim → s2.N = s.N → vexec ty s2 o = some { s2 with tm := putf o.dst v s2.tm, H := H', nx := n' }) →
          ∃ v H' n', s.nx ≤ n' ∧ (∀ m, s.lim = some m → s.nx ≤ m → n' ≤ m) ∧ s1 = { s with tm := putf o.dst v s.tm, H := H', nx := n' } ∧
          ∀ s2 : St, (∀ t ∈ o.looksAt ops, s2.tm t = s.tm t) → s2.H = s.H → s2.nx = s.nx → s2.lim = s.lim → s2.N = s.N → vstep P ty ops o s2 { s2 with tm := putf o.dst v s2.tm, H := H', nx := n' } := by
        rintro ⟨v, H', n', h1, h2, h3, h4⟩
        refine ⟨v, H', n', h1, h2, h3, fun s2 ht hH hn hl hN => ?_⟩
        unfold vstep vop
        rw [vwant_agree ht, hw, hf]
        exact ⟨_, h4 s2 ht hH hn hl hN, rfl⟩
      refine fin ?_
      have hroom : ∀ (s2 : St) k, s2.nx = s.nx → s2.lim = s.lim → s2.room k = s.room k := fun s2 k hn hl => by simp only [St.room, hl, hn]
      unfold vexec at hx ⊢
      cases ho : o.op with
      | store t x y =>
        simp only [ho] at hx ⊢
        cases hd : o.dst with
        | some d => rw [hd] at hx; cases hx
        | none =>
          rw [hd] at hx
          simp only at hx ⊢
          have e1 : ∀ s2 : St, (∀ t ∈ o.looksAt ops, s2.tm t = s.tm t) → ev s2 x = ev s x ∧ ev s2 y = ev s y := fun s2 ht => ⟨ev_agree ht (by simp [ho, Op.operands]), ev_agree ht (by simp [ho, Op.operands])⟩
          have key : ∃ H' n', s.nx ≤ n' ∧ (∀ m, s.lim = some m → s.nx ≤ m → n' ≤ m) ∧ s1 = { s with H := H', nx := n' } ∧ ∀ s2 : St, s2.H = s.H → s2.nx = s.nx → s2.lim = s.lim → xStore ty s2 t (ev s x) (retype ty t (ev s y)) = some { s2 with H := H', nx := n' } := by
            unfold xStore at hx
            split at hx
            · cases hx
            · rename_i vs hvs
              split at hx
              · rename_i hsz
                split at hx
                · rename_i T j hxv
                  split at hx
                  · rename_i cs hcs
                    split at hx
                    · rename_i hj
                      simp only [Option.some.injEq] at hx
                      refine ⟨_, s.nx, Nat.le_refl _, fun m _ hm => hm, hx.symm, fun s2 hH hn hl => ?_⟩
                      unfold xStore
                      simp only [hvs, if_pos hsz, hxv, hH, hcs, if_pos hj, hn]
                    · cases hx
                  · cases hx
                · rename_i T i j hxv
                  split at hx
                  · rename_i ps n H2 htc
                    split at hx
                    · rename_i e rows hroot
                      split at hx
                      · rename_i r hr
                        split at hx
                        · rename_i hj
                          simp only [Option.some.injEq] at hx
                          refine ⟨_, n, toCells_le _ _ _ _ _ _ htc, fun m hm hmm => ?_, hx.symm, fun s2 hH hn hl => ?_⟩
                          · have := room_le hj.2 m hm
                            have := toCells_le _ _ _ _ _ _ htc
                            omega
                          · unfold xStore
                            simp only [hvs, if_pos hsz, hxv, hH, hn, htc, hroot, hr]
                            rw [if_pos (by rw [hroom s2 _ hn hl]; exact hj)]
                        · cases hx
                      · cases hx
                    · cases hx
                  · cases hx
                · cases hx
              · cases hx
          obtain ⟨H', n', h1, h2, h3, h4⟩ := key
          refine ⟨.any, H', n', h1, h2, h3, fun s2 ht hH hn hl hN => ?_⟩
          rw [(e1 s2 ht).1, (e1 s2 ht).2]
          exact h4 s2 hH hn hl
      | call c =>
        simp only [ho] at hx ⊢
        cases hcal : c.callee with
        | builtin b =>
          rw [hcal] at hx
          have hb : b = .append := by
            cases b <;> first | rfl | (simp [quietOp, ho, hcal] at hq)
          subst hb
          simp only at hx ⊢
          split at hx
          · rename_i x y t t' hargs hts
            have e1 : ∀ s2 : St, (∀ t ∈ o.looksAt ops, s2.tm t = s.tm t) → ev s2 x = ev s x ∧ ev s2 y = ev s y := fun s2 ht => by
              have hm : ∀ z ∈ c.args.toList, z ∈ o.op.operands.toList := fun z hz => by
                simp only [ho, Op.operands, Call.operands, Array.toList_append]
                exact List.mem_append_right _ hz
              exact ⟨ev_agree ht (hm x (by rw [hargs]; simp)), ev_agree ht (hm y (by rw [hargs]; simp))⟩
            split at hx
            · rename_i htt
              subst htt
              have hsr : ∀ s2 : St, s2.H = s.H → srcRows s2 (ev s y) = srcRows s (ev s y) ∧ ∀ e, srcTy s2 (ev s y) e = srcTy s (ev s y) e := fun s2 hH => by
                cases ev s y <;> first | exact ⟨rfl, fun _ => rfl⟩ | (constructor <;> simp only [srcRows, srcTy, hH, implies_true])
              suffices key : ∃ v H' n', s.nx ≤ n' ∧ (∀ m, s.lim = some m → s.nx ≤ m → n' ≤ m) ∧ s1 = { s with tm := putf o.dst v s.tm, H := H', nx := n' } ∧ ∀ s2 : St, s2.H = s.H → s2.nx = s.nx → s2.lim = s.lim → s2.N = s.N →
                  xAppend ty s2 t (retype ty t (ev s x)) (ev s y) o.dst = some { s2 with tm := putf o.dst v s2.tm, H := H', nx := n' } by
                obtain ⟨v, H', n', h1, h2, h3, h4⟩ := key
                refine ⟨v, H', n', h1, h2, h3, fun s2 ht hH hn hl hN => ?_⟩
                rw [if_pos rfl, (e1 s2 ht).1, (e1 s2 ht).2]
                exact h4 s2 hH hn hl hN
              unfold xAppend at hx
              split at hx
              · rename_i e _ _ _ ht
                split at hx
                · rename_i d ns hde hns
                  split at hx
                  · rename_i hc
                    split at hx
                    · rename_i e0 hxv
                      split at hx
                      · rename_i hb
                        obtain ⟨h1, h2⟩ := putd_putf hx
                        refine ⟨_, _, _, Nat.le_add_right _ 2, fun m hm _ => room_le hb.2.2 m hm, h1, fun s2 hH hn hl hN => ?_⟩
                        unfold xAppend
                        simp only [ht, hde, (hsr s2 hH).1, hns, (hsr s2 hH).2, if_pos hc, hxv]
                        rw [if_pos (by rw [hroom s2 _ hn hl]; exact hb), hn, hH]
                        exact h2 { s2 with H := _, nx := _ } hN
                      · cases hx
                    · rename_i T n hxv
                      split at hx
                      · rename_i e' rows hroot
                        split at hx
                        · rename_i hb
                          obtain ⟨h1, h2⟩ := putd_putf hx
                          refine ⟨_, _, _, Nat.le_add_right _ 1, fun m hm _ => room_le hb.2.2.2.2 m hm, h1, fun s2 hH hn hl hN => ?_⟩
                          unfold xAppend
                          simp only [ht, hde, (hsr s2 hH).1, hns, (hsr s2 hH).2, if_pos hc, hxv, hH, hroot]
                          rw [if_pos (by rw [hroom s2 _ hn hl]; exact hb), hn]
                          exact h2 { s2 with H := _, nx := _ } hN
                        · cases hx
                      · cases hx
                    · cases hx
                  · cases hx
                · cases hx
              · cases hx
            · cases hx
          · cases hx
        | _ => simp [quietOp, ho, hcal] at hq
      | _ => simp [quietOp, ho] at hq
    · rename_i hw
      obtain ⟨s1, hput, hk⟩ := h
      subst hk
      obtain ⟨h1, h2⟩ := putd_putf hput
      refine ⟨_, s.H, s.nx, Nat.le_refl _, fun m _ hm => hm, h1, fun s2 ht hH hn hl hN => ?_⟩
      unfold vstep vop
      rw [vwant_agree ht, hw]
      refine ⟨_, h2 s2 hN, ?_⟩
      rw [← hH, ← hn]
    · exact h.elim
end
end Go.Proofs.Ytchkbgekmoileaa

/- The value-level engine, twentieth part: a region whose order is open comes, in whatever order, to what it comes to as it is written. -/
namespace Go.Proofs.Ytchkbgekmoileaa
open Go Go.RowKit
set_option linter.unusedVariables false
set_option linter.unusedSimpArgs false

def commB (oi oj : Oper) : Bool := (quietOp oi && quietOp oj) || dryOp oi || dryOp oj

/-- One step, in a window of tokens of its own. -/
def stepD (P : Program) (ty : Ty) (ops : Array Oper) (o : Oper) (lo hi : Nat) (d d' : St) : Prop := ∃ s', vstep P ty ops o (d.win lo hi) s' ∧ d' = s'.nm 0

def descs (ops : Array Oper) (i : Nat) : List Nat :=
  (List.range ops.size).foldl (fun acc j => match ops[j]? with
    | some o => if o.after.any (fun e => Region.binds .any e && (e.on == i || acc.contains e.on)) then j :: acc else acc
    | none => acc) []

/-- May the region be taken as it is written? -/
def drawOK (ops : Array Oper) : Bool :=
  (List.range ops.size).all fun j => match ops[j]? with
    | none => false
    | some oj => oj.after.all (fun e => !Region.binds .any e || decide (e.on < j)) && (List.range j).all fun i => (descs ops i).contains j || (match ops[i]? with
      | some oi => oi.apart ops oj && commB oi oj
      | none => false)

def lo (b i : Nat) : Nat := b + i * 64
def hi (b i : Nat) : Nat := b + (i + 1) * 64

def stepI (P : Program) (ty : Ty) (ops : Array Oper) (b i : Nat) (d d' : St) : Prop := ∃ o, ops[i]? = some o ∧ stepD P ty ops o (lo b i) (hi b i) d d'
def ChainD (P : Program) (ty : Ty) (ops : Array Oper) (b : Nat) : List Nat → St → (St → Prop) → Prop
  | [], d, K => K d
  | i :: L, d, K => ∃ d', stepI P ty ops b i d d' ∧ ChainD P ty ops b L d' K

def vdraw (P : Program) (ty : Ty) (ops : Array Oper) : List Oper → Nat → Nat → St → (St → Prop) → Prop
  | [], k, b, s, K => K (s.nm (b + k * 64))
  | o :: rest, k, b, s, K => vop P ty ops o (s.win (b + k * 64) (b + (k + 1) * 64)) fun s' => vdraw P ty ops rest (k + 1) b s' K

section
variable {P : Program} {E : Env} {g g' : Gh} {s s2 s' d d1 d2 : St} {a : Act} {w w' : World} {ty : Ty} {ops : Array Oper} {o oi oj : Oper}

theorem putf_ne {x : Option Nat} {v : VV} {f : Nat → VV} {t : Nat} (h : ∀ d, x = some d → t ≠ d) : putf x v f t = f t := by
  cases x with
  | none => rfl
  | some d => exact updV_ne _ _ (h d rfl)
theorem putf_comm {x y : Option Nat} {u v : VV} {f : Nat → VV} (h : ∀ d, x = some d → y ≠ some d) : putf x u (putf y v f) = putf y v (putf x u f) := by
  cases x with
  | none => rfl
  | some d =>
    cases y with
    | none => rfl
    | some e =>
      have hne : e ≠ d := fun hh => h d rfl (by rw [hh])
      funext t
      simp only [putf, updV]
      by_cases c1 : t = d
      · have : t ≠ e := fun hh => hne (by rw [← hh, c1])
        simp [c1, Ne.symm hne]
      · simp [c1]

theorem comm_step {li hI lj hJ : Nat} (hi1 : li ≤ hI) (hj1 : lj ≤ hJ) (hdis : hI ≤ lj ∨ hJ ≤ li) (hap : oi.apart ops oj = true) (hc : commB oi oj = true)
    (hseen : ∀ t, ∀ T ∈ toks (d.tm t), ¬ (li ≤ T ∧ T < hI) ∧ ¬ (lj ≤ T ∧ T < hJ)) (hdeep : ∀ t, ∀ T ∈ deepA d.H (d.tm t), ¬ (li ≤ T ∧ T < hI) ∧ ¬ (lj ≤ T ∧ T < hJ)) (h1 : stepD P ty ops oi li hI d d1) (h2 : stepD P ty ops oj lj hJ d1 d2) :
    ∃ d', stepD P ty ops oj lj hJ d d' ∧ stepD P ty ops oi li hI d' d2 := by
  obtain ⟨a1, a2, a3⟩ := Oper.apart_spec hap
  obtain ⟨s1, h1, rfl⟩ := h1
  obtain ⟨s3, h2, rfl⟩ := h2
  have pi : ∀ (v : VV) (f : Nat → VV), ∀ t ∈ oj.looksAt ops, putf oi.dst v f t = f t := fun v f t ht => putf_ne fun d hd hh => a1 d hd (hh ▸ ht)
  have pj : ∀ (v : VV) (f : Nat → VV), ∀ t ∈ oi.looksAt ops, putf oj.dst v f t = f t := fun v f t ht => putf_ne fun d hd hh => a3 d hd (hh ▸ ht)
  have hq : (quietOp oi = true ∧ quietOp oj = true) ∨ dryOp oi = true ∨ dryOp oj = true := by
    simp only [commB, Bool.or_eq_true, Bool.and_eq_true] at hc
    rcases hc with (h | h) | h
    · exact .inl h
    · exact .inr (.inl h)
    · exact .inr (.inr h)
  rcases hq with ⟨qi, qj⟩ | di | dj
  · obtain ⟨vi, δi, ni, n1, n2, rfl, n4⟩ := vstep_quiet (fun hh => by cases hh) qi h1
    have n2' : ni ≤ hI := n2 hI rfl hi1
    have n1' : li ≤ ni := n1
    obtain ⟨vj, δj, nj, m1, m2, rfl, m4⟩ := vstep_quiet (fun hh => by cases hh) qj h2
    have m2' : nj ≤ hJ := m2 hJ rfl hj1
    have m1' : lj ≤ nj := m1
    have e1 := m4 (d.win lj hJ) ⟨rfl, rfl, rfl, fun t ht => (pi vi d.tm t ht).symm, fun t ht T hT => by
      have hT' : T ∈ toks (d.tm t) := by
        have hh := pi vi d.tm t ht
        have hT : T ∈ toks (putf oi.dst vi d.tm t) := hT
        rwa [hh] at hT
      have hns := (hseen t T hT').1
      show d.H T = ov li ni δi d.H T
      simp only [ov]
      rw [if_neg (by omega)], fun t ht T hT => by
      have hdd : deepA (ov li ni δi d.H) (d.tm t) = deepA d.H (d.tm t) := deepA_agree fun X hX => by
        have hns := (hseen t X hX).1
        simp only [ov]
        rw [if_neg (by omega)]
      have hT' : T ∈ deepA d.H (d.tm t) := by
        have hh := pi vi d.tm t ht
        have hT : T ∈ deepA (ov li ni δi d.H) (putf oi.dst vi d.tm t) := hT
        rwa [hh, hdd] at hT
      have hns := (hdeep t T hT').1
      show d.H T = ov li ni δi d.H T
      simp only [ov]
      rw [if_neg (by omega)]⟩
    refine ⟨_, ⟨_, e1, rfl⟩, _, n4 _ ⟨rfl, rfl, rfl, fun t ht => pj vj d.tm t ht, fun t ht T hT => ?_, fun t ht T hT => ?_⟩, ?_⟩
    rotate_left
    · have hT' : T ∈ deepA d.H (d.tm t) := hT
      have hns := (hdeep t T hT').2
      show ov lj nj δj d.H T = d.H T
      simp only [ov]
      rw [if_neg (by omega)]
    rotate_right
    · have hT' : T ∈ toks (d.tm t) := hT
      have hns := (hseen t T hT').2
      show ov lj nj δj d.H T = d.H T
      simp only [ov]
      rw [if_neg (by omega)]
    · simp only [eff, St.nm, St.win, St.mk.injEq, and_true]
      refine ⟨(putf_comm a2).symm, ?_⟩
      funext T
      simp only [ov]
      by_cases c1 : li ≤ T ∧ T < ni
      · have c2 : ¬ (lj ≤ T ∧ T < nj) := by omega
        simp [c1, c2]
      · simp [c1]
  · obtain ⟨vi, rfl, n4⟩ := vstep_dry di h1
    obtain ⟨vj, H', nj, m1, m2, rfl, m4⟩ := vstep_wild (fun hh => by cases hh) h2
    have e1 := m4 (d.win lj hJ) (fun t ht => (pi vi d.tm t ht).symm) rfl rfl rfl rfl
    refine ⟨_, ⟨_, e1, rfl⟩, _, n4 _ (fun t ht => pj vj d.tm t ht) rfl, ?_⟩
    simp only [St.nm, St.win, St.mk.injEq, and_true]
    exact (putf_comm a2).symm
  · obtain ⟨vi, H', ni, n1, n2, rfl, n4⟩ := vstep_wild (fun hh => by cases hh) h1
    obtain ⟨vj, rfl, m4⟩ := vstep_dry dj h2
    have e1 := m4 (d.win lj hJ) (fun t ht => (pi vi d.tm t ht).symm) rfl
    refine ⟨_, ⟨_, e1, rfl⟩, _, n4 _ (fun t ht => pj vj d.tm t ht) rfl rfl rfl rfl, ?_⟩
    simp only [St.nm, St.win, St.mk.injEq, and_true]
    exact (putf_comm a2).symm

/-! ### The relation, from step to step -/
theorem cap_seen {H : Heap} {x : VV} {v : Value} (h : CapRel P E H g x v) : ∀ T ∈ tokP x, g.sn T = true := by
  cases x <;> intro T hT <;> simp only [tokP, List.mem_singleton, List.not_mem_nil] at hT
  all_goals (subst hT; exact h.1)
theorem crel_seen {H : Heap} {x : VV} {v : Value} (h : CRel P E H g x v) : ∀ T ∈ tokC x, g.sn T = true := by
  cases x
  case clo f caps =>
    intro T hT
    obtain ⟨cs, h1, h2, h3⟩ := h
    simp only [tokC, List.mem_flatMap] at hT
    obtain ⟨c, hc, hT⟩ := hT
    obtain ⟨j, hj⟩ := List.getElem?_of_mem hc
    have hlt : j < cs.length := by rw [h2]; exact (List.getElem?_eq_some_iff.1 hj).1
    exact cap_seen (h3 j c _ hj (List.getElem?_eq_getElem hlt)) T hT
  all_goals
    intro T hT
    simp only [tokC, List.mem_singleton, List.not_mem_nil] at hT
    try (subst hT; exact h.1)

theorem box_seen {H : Heap} (hh : HRel P E g H w) {T j : Nat} {cs : List VV} (hT : H T = .box cs) : ∀ X ∈ (cs.drop j).flatMap ptToks, g.sn X = true := by
  intro X hX
  simp only [List.mem_flatMap] at hX
  obtain ⟨c, hc, hX⟩ := hX
  obtain ⟨k, hk⟩ := List.getElem?_of_mem hc
  rw [List.getElem?_drop] at hk
  obtain ⟨cur, e, _, _, hcell⟩ := hh.box T cs hT
  obtain ⟨_, _, u, _, hr⟩ := hcell _ c hk
  cases c <;> simp only [ptToks, List.mem_singleton, List.not_mem_nil] at hX
  subst hX
  exact hr.1
theorem deepC_seen {H : Heap} (hh : HRel P E g H w) (x : VV) : ∀ T ∈ deepC H x, g.sn T = true := by
  intro X hX
  cases x with
  | bp T j =>
    simp only [deepC] at hX
    split at hX
    · rename_i cs hT; exact box_seen hh hT X hX
    · cases hX
  | clo f caps =>
    simp only [deepC, List.mem_flatMap] at hX
    obtain ⟨c, hc, hX⟩ := hX
    cases c with
    | bp T j =>
      simp only at hX
      split at hX
      · rename_i cs hT; exact box_seen hh hT X hX
      · cases hX
    | _ => cases hX
  | _ => simp [deepC] at hX
theorem deepA_seen {H : Heap} (hh : HRel P E g H w) (x : VV) : ∀ T ∈ deepA H x, g.sn T = true := by
  intro X hX
  by_cases ha : ∃ vs, x = .agg vs
  · obtain ⟨vs, rfl⟩ := ha
    simp only [deepA, List.mem_flatMap] at hX
    obtain ⟨c, _, hX⟩ := hX
    exact deepC_seen hh c X hX
  · have : deepA H x = deepC H x := by cases x <;> first | rfl | exact absurd ⟨_, rfl⟩ ha
    rw [this] at hX
    exact deepC_seen hh x X hX

theorem arel_seen {H : Heap} {x : VV} {v : Value} (h : ARel P E H g x v) : ∀ T ∈ tokA x, g.sn T = true := by
  by_cases ha : ∃ vs, x = .agg vs
  · obtain ⟨vs, rfl⟩ := ha
    obtain ⟨cs, h1, h2, h3⟩ := h
    intro T hT
    simp only [tokA, List.mem_flatMap] at hT
    obtain ⟨c, hc, hT⟩ := hT
    obtain ⟨j, hj⟩ := List.getElem?_of_mem hc
    have hlt : j < cs.length := by rw [h2]; exact (List.getElem?_eq_some_iff.1 hj).1
    exact crel_seen (h3 j c _ hj (List.getElem?_eq_getElem hlt)) T hT
  · have hne : ∀ vs, x ≠ .agg vs := fun vs hh => ha ⟨vs, hh⟩
    rw [arel_eq hne] at h
    have : tokA x = tokC x := by cases x <;> first | rfl | exact absurd rfl (hne _)
    rw [this]
    exact crel_seen h
theorem vrel_seen {H : Heap} {x : VV} {v : Value} (h : VRel P E H g x v) : ∀ T ∈ toks x, g.sn T = true := by
  by_cases ha : ∃ vs, x = .tup vs
  · obtain ⟨vs, rfl⟩ := ha
    obtain ⟨cs, h1, h2, h3⟩ := h
    intro T hT
    simp only [toks, List.mem_flatMap] at hT
    obtain ⟨c, hc, hT⟩ := hT
    obtain ⟨j, hj⟩ := List.getElem?_of_mem hc
    have hlt : j < cs.length := by rw [h2]; exact (List.getElem?_eq_some_iff.1 hj).1
    exact arel_seen (h3 j c _ hj (List.getElem?_eq_getElem hlt)) T hT
  · have hne : ∀ vs, x ≠ .tup vs := fun vs hh => ha ⟨vs, hh⟩
    rw [vrel_eq hne] at h
    have : toks x = tokA x := by cases x <;> first | rfl | exact absurd rfl (hne _)
    rw [this]
    exact arel_seen h

theorem rel_win {n l h : Nat} (hr : Rel P E g (d.nm n) a w) (hf : ∀ T, l ≤ T → T < h → g.sn T = false) : Rel P E g (d.win l h) a w :=
  ⟨hr.size, hr.defers, hr.heap, fun T hT => hf T hT.1 hT.2, hr.tmps, hr.pin⟩
theorem rel_nm {n : Nat} (hr : Rel P E g s a w) (hf : ∀ T, n ≤ T → g.sn T = false) : Rel P E g (s.nm n) a w :=
  ⟨hr.size, hr.defers, hr.heap, fun T hT => hf T hT.1, hr.tmps, hr.pin⟩

theorem wp_ex {K : Act → World → Prop} (h : o.wp P a w K (fun _ _ _ => False)) : ∃ a' w', K a' w' := by
  unfold Oper.wp at h
  generalize (execOp a.eval o).run P w = r at h
  cases r with
  | ok x w' =>
    cases x with
    | enter f args =>
      simp only [Oper.upon] at h
      obtain ⟨e, w2, fr, h1, _⟩ := h []
      cases e with
      | returned v => exact ⟨_, _, h1⟩
      | panicked c => exact h1.elim
      | outgrown => obtain ⟨_, _, hh⟩ := h1; exact hh.elim
    | row r args =>
      simp only [Oper.upon] at h
      obtain ⟨v, w2, h1, _⟩ := h default []
      exact ⟨_, _, h1⟩
    | _ => first | (simp only [Oper.upon] at h; done) | (simp only [Oper.upon] at h; exact ⟨_, _, h⟩)
  | halt x w' =>
    cases x <;> simp only [Oper.upon] at h

/-- Windows that nobody has seen. -/
def Unseen (g : Gh) (b n : Nat) (U : List Nat) : Prop := (∀ T, b + n * 64 ≤ T → g.sn T = false) ∧ ∀ i ∈ U, ∀ T, lo b i ≤ T → T < hi b i → g.sn T = false

theorem unseen_step {b n : Nat} {U : List Nat} {i : Nat} (hi' : i < n) (hU : Unseen g b n U) {s' : St} (hs : s'.nx ≤ hi b i) (hf : ∀ T, (lo b i ≤ T → s'.nx ≤ T) → g'.sn T = g.sn T) : Unseen g' b n (U.filter (· ≠ i)) := by
  have hle : (i + 1) * 64 ≤ n * 64 := Nat.mul_le_mul_right _ hi'
  refine ⟨fun T hT => ?_, fun k hk T h1 h2 => ?_⟩
  · rw [hf T (fun _ => ?_)]
    · exact hU.1 T hT
    · unfold hi at hs; omega
  · simp only [List.mem_filter, decide_eq_true_eq] at hk
    obtain ⟨hk1, hk2⟩ := hk
    rw [hf T (fun hlo => ?_)]
    · exact hU.2 k hk1 T h1 h2
    · unfold lo hi at *
      rcases Nat.lt_or_gt_of_ne hk2 with h | h
      · have : (k + 1) * 64 ≤ i * 64 := Nat.mul_le_mul_right _ h
        omega
      · have : (i + 1) * 64 ≤ k * 64 := Nat.mul_le_mul_right _ h
        omega

theorem stepD_nx {l h : Nat} (hlh : l ≤ h) (hv : vstep P ty ops o (d.win l h) s') : s'.nx ≤ h := by
  obtain ⟨v, H', n', h1, h2, rfl, _⟩ := vstep_wild (fun hh => by cases hh) hv
  exact h2 h rfl hlh

def Good (P : Program) (E : Env) (b n : Nat) (U : List Nat) (d : St) : Prop := ∃ g a w, Rel P E g (d.nm (b + n * 64)) a w ∧ Unseen g b n U

theorem lohi (b i : Nat) : lo b i ≤ hi b i := by unfold lo hi; omega

theorem good_step (hT : TyOK P ty) {b n : Nat} {U : List Nat} (hg : Good P E b n U d) {i : Nat} (hi' : i < n) (hiU : i ∈ U) (h : stepI P ty ops b i d d1) : Good P E b n (U.filter (· ≠ i)) d1 := by
  obtain ⟨g, a, w, hr, hU⟩ := hg
  obtain ⟨o, ho, s', hv, rfl⟩ := h
  have hnx := stepD_nx (lohi b i) hv
  have hw := rel_win (l := lo b i) (h := hi b i) hr (hU.2 i hiU)
  have key := vop_sound hT hw (ops := ops) (o := o) (K := (· = s')) hv (Kp := fun a' w' => ∃ g', Rel P E g' s' a' w' ∧ (∀ T, (lo b i ≤ T → s'.nx ≤ T) → g'.sn T = g.sn T)) (Q := fun _ _ _ => False)
    (fun g' s2 a' w' hs hr' hf => by subst hs; exact ⟨g', hr', hf⟩)
  have : ∃ a' w' g', Rel P E g' s' a' w' ∧ (∀ T, (lo b i ≤ T → s'.nx ≤ T) → g'.sn T = g.sn T) := by
    split at key
    · rcases key with k | ⟨_, _, _, k⟩
      · obtain ⟨a', w', g', k1⟩ := wp_ex k
        exact ⟨a', w', g', k1⟩
      · exact k.elim
    · obtain ⟨g', k1⟩ := key
      exact ⟨_, _, g', k1⟩
  obtain ⟨a', w', g', k1, k2⟩ := this
  have hun := unseen_step hi' hU hnx k2
  have hrel : Rel P E g' (s'.nm (b + n * 64)) a' w' := rel_nm k1 hun.1
  exact ⟨g', a', w', hrel, hun⟩

theorem bubble (hT : TyOK P ty) {b n : Nat} {K : St → Prop} {j : Nat} {oj : Oper} (hoj : ops[j]? = some oj) (hjn : j < n) : ∀ (pre post U : List Nat) (d : St), Good P E b n U d → j ∈ U → (∀ i ∈ pre, i ∈ U ∧ i < n ∧ i ≠ j) → pre.Nodup →
    (∀ i ∈ pre, ∃ oi, ops[i]? = some oi ∧ oi.apart ops oj = true ∧ commB oi oj = true) → ChainD P ty ops b (pre ++ j :: post) d K → ∃ d', stepI P ty ops b j d d' ∧ ChainD P ty ops b (pre ++ post) d' K
  | [], post, U, d, _, _, _, _, _, h => h
  | i :: pre, post, U, d, hg, hjU, hp, hnd, hc, h => by
    obtain ⟨d1, h1, h2⟩ := h
    obtain ⟨iU, hin, hij⟩ := hp i (List.mem_cons_self ..)
    have hg1 := good_step hT hg hin iU h1
    rw [List.nodup_cons] at hnd
    obtain ⟨d2, h3, h4⟩ := bubble hT hoj hjn pre post (U.filter (· ≠ i)) d1 hg1 (by simp [hjU, Ne.symm hij]) (fun k hk => by
      obtain ⟨k1, k2, k3⟩ := hp k (List.mem_cons_of_mem _ hk)
      have : k ≠ i := fun hh => hnd.1 (hh ▸ hk)
      exact ⟨by simp [k1, this], k2, k3⟩) hnd.2 (fun k hk => hc k (List.mem_cons_of_mem _ hk)) h2
    obtain ⟨oi, hoi, hap, hcm⟩ := hc i (List.mem_cons_self ..)
    obtain ⟨oi', hoi', h1⟩ := h1
    rw [hoi] at hoi'
    cases hoi'
    obtain ⟨oj', hoj', h3⟩ := h3
    rw [hoj] at hoj'
    cases hoj'
    obtain ⟨g, a, w, hr, hU⟩ := hg
    have hdis : hi b i ≤ lo b j ∨ hi b j ≤ lo b i := by
      unfold lo hi
      rcases Nat.lt_or_gt_of_ne hij with h | h
      · have : (i + 1) * 64 ≤ j * 64 := Nat.mul_le_mul_right _ h
        exact .inl (by omega)
      · have : (j + 1) * 64 ≤ i * 64 := Nat.mul_le_mul_right _ h
        exact .inr (by omega)
    obtain ⟨d', k1, k2⟩ := comm_step (lohi b i) (lohi b j) hdis hap hcm (fun t T hTt => by
      have hs := vrel_seen (hr.tmps t) T hTt
      refine ⟨fun hh => ?_, fun hh => ?_⟩
      · rw [hU.2 i iU T hh.1 hh.2] at hs; cases hs
      · rw [hU.2 j hjU T hh.1 hh.2] at hs; cases hs) (fun t T hTt => by
      have hs := deepA_seen hr.heap _ T hTt
      refine ⟨fun hh => ?_, fun hh => ?_⟩
      · rw [hU.2 i iU T hh.1 hh.2] at hs; cases hs
      · rw [hU.2 j hjU T hh.1 hh.2] at hs; cases hs) h1 h3
    exact ⟨d', ⟨oj, hoj, k1⟩, d2, ⟨oi, hoi, k2⟩, h4⟩

/-! ### Whatever the order -/
def unl (n : Nat) (listed : Array Bool) : List Nat := (List.range n).filter fun i => !listed.getD i true

def Closed (ops : Array Oper) (listed : Array Bool) : Prop := ∀ j o, ops[j]? = some o → listed.getD j true = true → ∀ e ∈ o.after, Region.binds .any e = true → listed.getD e.on false = true

theorem descs_closed {listed : Array Bool} (hc : Closed ops listed) (i : Nat) : ∀ j ∈ descs ops i, (listed.getD j true = true → listed.getD i false = true) ∧
    (∀ o, ops[j]? = some o → (∀ e ∈ o.after, Region.binds .any e = true → listed.getD e.on false = true) → listed.getD i false = true) := by
  have key : ∀ (l : List Nat) (acc : List Nat), (∀ j ∈ acc, (listed.getD j true = true → listed.getD i false = true) ∧
      (∀ o, ops[j]? = some o → (∀ e ∈ o.after, Region.binds .any e = true → listed.getD e.on false = true) → listed.getD i false = true)) →
      ∀ j ∈ l.foldl (fun acc j => match ops[j]? with
        | some o => if o.after.any (fun e => Region.binds .any e && (e.on == i || acc.contains e.on)) then j :: acc else acc
        | none => acc) acc, (listed.getD j true = true → listed.getD i false = true) ∧
      (∀ o, ops[j]? = some o → (∀ e ∈ o.after, Region.binds .any e = true → listed.getD e.on false = true) → listed.getD i false = true) := by
    intro l
    induction l with
    | nil => intro acc h; exact h
    | cons k l ih =>
      intro acc h
      simp only [List.foldl_cons]
      refine ih _ ?_
      cases ho : ops[k]? with
      | none => simp only [ho]; exact h
      | some o =>
        simp only [ho]
        split
        · rename_i hany
          have kk : ∀ o', ops[k]? = some o' → (∀ e ∈ o'.after, Region.binds .any e = true → listed.getD e.on false = true) → listed.getD i false = true := by
            intro o' ho' hall
            rw [ho] at ho'
            cases ho'
            rw [Array.any_eq_true] at hany
            obtain ⟨x, hx, he⟩ := hany
            simp only [Bool.and_eq_true, Bool.or_eq_true, beq_iff_eq, List.contains_eq_mem, decide_eq_true_eq] at he
            have hmem : o.after[x] ∈ o.after := Array.getElem_mem hx
            have hl := hall _ hmem he.1
            rcases he.2 with e1 | e1
            · rwa [e1] at hl
            · refine (h _ e1).1 ?_
              rcases Nat.lt_or_ge (o.after[x]).on listed.size with h' | h'
              · simp only [Array.getD_eq_getD_getElem?, Array.getElem?_eq_getElem h', Option.getD_some] at hl ⊢; exact hl
              · simp [Array.getD_eq_getD_getElem?, Array.getElem?_eq_none h'] at hl
          intro j hj
          rcases List.mem_cons.1 hj with rfl | hj
          · exact ⟨fun hl => kk o ho (hc _ o ho hl), kk⟩
          · exact h j hj
        · exact h
  exact key _ [] (fun j hj => by simp at hj)

theorem unl_set {n : Nat} {listed : Array Bool} (hn : listed.size = n) {j : Nat} (hj : j < n) : unl n (listed.setIfInBounds j true) = (unl n listed).filter (· ≠ j) := by
  unfold unl
  rw [List.filter_filter]
  refine List.filter_congr fun i hi => ?_
  by_cases c : i = j
  · subst c
    have : i < listed.size := by omega
    simp [this]
  · have : (listed.setIfInBounds j true).getD i true = listed.getD i true := getD_set_ne true (Ne.symm c)
    rw [this]
    simp [c]

theorem anyD (hT : TyOK P ty) {b n : Nat} {Q : Exit → St → Prop} (hn : ops.size = n)
    (hok : ∀ j, j < n → ∃ oj, ops[j]? = some oj ∧ (∀ e ∈ oj.after, Region.binds .any e = true → e.on < j) ∧ ∀ i, i < j → j ∈ descs ops i ∨ ∃ oi, ops[i]? = some oi ∧ oi.apart ops oj = true ∧ commB oi oj = true) :
    ∀ (fuel : Nat) (listed : Array Bool) (g : Gh) (d : St) (a : Act) (w : World), Rel P E g (d.nm (b + n * 64)) a w → Unseen g b n (unl n listed) → listed.size = n → Closed ops listed → (unl n listed).length ≤ fuel →
      ChainD P ty ops b (unl n listed) d (fun d => Q .normal (d.nm (b + n * 64))) → wpAny P .any ops (lift P E Q) fuel listed a w := by
  have hready : ∀ listed : Array Bool, listed.size = n → Region.ready .any ops listed = [] → unl n listed = [] := by
    intro listed hsz hr
    cases hu : unl n listed with
    | nil => rfl
    | cons i L =>
      exfalso
      have hi : i ∈ unl n listed := by rw [hu]; exact List.mem_cons_self ..
      have hi' := hi
      simp only [unl, List.mem_filter, List.mem_range, Bool.not_eq_true'] at hi'
      obtain ⟨oi, hoi, haf, _⟩ := hok i hi'.1
      have hpw : (unl n listed).Pairwise (· < ·) := List.Pairwise.filter _ (List.pairwise_lt_range)
      have : i ∈ Region.ready .any ops listed := by
        rw [mem_ready]
        refine ⟨hi'.2, oi, hoi, fun e he hb => ?_⟩
        have hlt := haf e he hb
        have hlt2 : e.on < listed.size := by omega
        cases hl : listed.getD e.on true with
        | true => simp only [Array.getD_eq_getD_getElem?, Array.getElem?_eq_getElem hlt2, Option.getD_some] at hl ⊢; exact hl
        | false =>
          have hmem : e.on ∈ unl n listed := by simp only [unl, List.mem_filter, List.mem_range, Bool.not_eq_true']; exact ⟨by omega, hl⟩
          rw [hu] at hmem hpw
          rw [List.pairwise_cons] at hpw
          rcases List.mem_cons.1 hmem with h | h
          · omega
          · have := hpw.1 _ h
            omega
      rw [hr] at this
      cases this
  intro fuel
  induction fuel with
  | zero =>
    intro listed g d a w hr hU hsz hcl hlen hch
    have hnil : unl n listed = [] := List.length_eq_zero_iff.1 (Nat.le_zero.1 hlen)
    rw [hnil] at hch
    refine ⟨?_, g, _, hr, hch⟩
    cases hrd : Region.ready .any ops listed with
    | nil => rfl
    | cons j L =>
      have : j ∈ Region.ready .any ops listed := by rw [hrd]; exact List.mem_cons_self ..
      obtain ⟨h0, o, ho, _⟩ := mem_ready.1 this
      have hlt : j < n := by rw [← hn]; exact (Array.getElem?_eq_some_iff.1 ho).1
      have : j ∈ unl n listed := by simp only [unl, List.mem_filter, List.mem_range, Bool.not_eq_true']; exact ⟨hlt, h0⟩
      rw [hnil] at this
      cases this
  | succ fuel ih =>
    intro listed g d a w hr hU hsz hcl hlen hch
    refine ⟨fun h0 => ?_, fun j hj => ?_⟩
    · rw [hready listed hsz h0] at hch
      exact ⟨g, _, hr, hch⟩
    · obtain ⟨h0, oj, hoj, hall⟩ := mem_ready.1 hj
      have hlt : j < n := by rw [← hn]; exact (Array.getElem?_eq_some_iff.1 hoj).1
      have hjU : j ∈ unl n listed := by simp only [unl, List.mem_filter, List.mem_range, Bool.not_eq_true']; exact ⟨hlt, h0⟩
      obtain ⟨pre, post, hsplit⟩ := List.append_of_mem hjU
      have hpw : (unl n listed).Pairwise (· < ·) := List.Pairwise.filter _ (List.pairwise_lt_range)
      have hpw' := hpw
      rw [hsplit, List.pairwise_append] at hpw'
      have hmemU : ∀ i ∈ pre, i ∈ unl n listed := fun i hi => by rw [hsplit]; exact List.mem_append_left _ hi
      have hpre : ∀ i ∈ pre, i < j := fun i hi => hpw'.2.2 i hi j (List.mem_cons_self ..)
      have hpost : ∀ i ∈ post, j < i := fun i hi => by
        have := hpw'.2.1
        rw [List.pairwise_cons] at this
        exact this.1 i hi
      have hnodup : pre.Nodup := hpw'.1.imp (fun h => Nat.ne_of_lt h)
      obtain ⟨oj', hoj', haf, hpair⟩ := hok j hlt
      rw [hoj] at hoj'
      cases hoj'
      have hcomm : ∀ i ∈ pre, ∃ oi, ops[i]? = some oi ∧ oi.apart ops oj = true ∧ commB oi oj = true := by
        intro i hi
        rcases hpair i (hpre i hi) with hd | hd
        · have hl := (descs_closed hcl i j hd).2 oj hoj hall
          have hu := hmemU i hi
          simp only [unl, List.mem_filter, List.mem_range, Bool.not_eq_true'] at hu
          have hlt2 : i < listed.size := by omega
          have h3 := hu.2
          simp only [Array.getD_eq_getD_getElem?, Array.getElem?_eq_getElem hlt2, Option.getD_some] at hl h3
          rw [hl] at h3
          cases h3
        · exact hd
      rw [hsplit] at hch
      obtain ⟨d', h1, h2⟩ := bubble hT hoj hlt pre post (unl n listed) d ⟨g, a, w, hr, hU⟩ hjU (fun i hi => ⟨hmemU i hi, Nat.lt_trans (hpre i hi) hlt, Nat.ne_of_lt (hpre i hi)⟩) hnodup hcomm hch
      obtain ⟨oj', hoj', s', hv, rfl⟩ := h1
      rw [hoj] at hoj'
      cases hoj'
      have hfil : unl n (listed.setIfInBounds j true) = pre ++ post := by
        rw [unl_set hsz hlt, hsplit, List.filter_append, List.filter_cons]
        have e1 : pre.filter (· ≠ j) = pre := List.filter_eq_self.2 fun i hi => by have := hpre i hi; simp; omega
        have e2 : post.filter (· ≠ j) = post := List.filter_eq_self.2 fun i hi => by have := hpost i hi; simp; omega
        rw [e1, e2]
        simp
      have hnx := stepD_nx (lohi b j) hv
      have hw := rel_win (l := lo b j) (h := hi b j) hr (hU.2 j hjU)
      unfold wpOp
      simp only [hoj]
      refine vop_sound hT hw (ops := ops) (o := oj) (K := (· = s')) hv fun g' s2 a' w' hs hr' hf => ?_
      subst hs
      have hun := unseen_step hlt hU hnx hf
      have hrel : Rel P E g' (s2.nm (b + n * 64)) a' w' := rel_nm hr' hun.1
      refine ih _ g' (s2.nm 0) a' w' hrel (by rw [unl_set hsz hlt]; exact hun) (by simpa using hsz) ?_ ?_ (by rw [hfil]; exact h2)
      · intro k o ho hk e he hb
        refine getD_set_true ?_
        by_cases c : k = j
        · subst c
          rw [hoj] at ho
          cases ho
          exact hall e he hb
        · rw [getD_set_ne true (Ne.symm c)] at hk
          exact hcl k o ho hk e he hb
      · have : (unl n listed).length = (pre ++ post).length + 1 := by rw [hsplit]; simp; omega
        rw [hfil]
        omega

theorem vdraw_chain {b : Nat} {K : St → Prop} : ∀ (l : List Oper) (k : Nat) (s : St), (∀ j, l[j]? = ops[k + j]?) → vdraw P ty ops l k b s K → ChainD P ty ops b (List.range' k l.length) (s.nm 0) (fun d => K (d.nm (b + (k + l.length) * 64)))
  | [], k, s, hl, h => h
  | o :: rest, k, s, hl, h => by
    obtain ⟨s', h1, h2⟩ := vop_ex.1 h
    have h0 : ops[k]? = some o := by simpa using (hl 0).symm
    have ih := vdraw_chain rest (k + 1) s' (fun j => by have := hl (j + 1); simpa [Nat.add_assoc, Nat.add_comm 1 j] using this) h2
    simp only [List.length_cons, List.range'_succ]
    refine ⟨s'.nm 0, ⟨o, h0, s', h1, rfl⟩, ?_⟩
    rw [show k + (rest.length + 1) = k + 1 + rest.length by omega]
    exact ih

theorem VWP_draw (hT : TyOK P ty) (hm : P.follows .mixedOrders = true) {id : Nat} {Q : Exit → St → Prop} (hok : drawOK ops = true) (hlim : s.lim = none) (h : vdraw P ty ops ops.toList 0 s.nx s (Q .normal)) : VWP P E (.region id ops true) Q s := by
  intro g a w hr
  refine wp_region_any hm ?_
  have hch := vdraw_chain ops.toList 0 s (by simp) h
  simp only [Array.length_toList, Nat.zero_add] at hch
  have hall : unl ops.size (Array.replicate ops.size false) = List.range' 0 ops.size := by
    rw [← List.range_eq_range']
    refine List.filter_eq_self.2 fun i hi => ?_
    have : i < ops.size := List.mem_range.1 hi
    simp [this]
  have hrel : Rel P E g ((s.nm 0).nm (s.nx + ops.size * 64)) a { w with drawn := w.drawn + 1 } :=
    ⟨hr.size, hr.defers, hr.heap.drew, fun T hT => hr.fresh T ⟨Nat.le_trans (Nat.le_add_right _ _) hT.1, by rw [hlim]; trivial⟩, hr.tmps, hr.pin⟩
  have hun : ∀ T, s.nx ≤ T → g.sn T = false := fun T hT => hr.fresh T ⟨hT, by rw [hlim]; trivial⟩
  refine anyD hT (b := s.nx) rfl (fun j hj => ?_) _ _ g (s.nm 0) a _ hrel ⟨fun T hT => hun T (by omega), fun i _ T h1 _ => hun T (by unfold lo at h1; omega)⟩ (by simp) (fun j o ho hl => ?_) (by rw [hall]; simp) (by rw [hall]; exact hch)
  · simp only [drawOK, List.all_eq_true, List.mem_range] at hok
    have := hok j hj
    split at this
    · cases this
    · rename_i oj hoj
      simp only [Bool.and_eq_true, Array.all_eq_true_iff_forall_mem, List.all_eq_true, List.mem_range, Bool.or_eq_true, Bool.not_eq_true', decide_eq_true_eq, List.contains_eq_mem] at this
      refine ⟨oj, hoj, fun e he hb => (this.1 e he).resolve_left (by simp [hb]), fun i hi => ?_⟩
      rcases this.2 i hi with h1 | h1
      · exact .inl h1
      · refine .inr ?_
        split at h1
        · rename_i oi hoi
          simp only [Bool.and_eq_true] at h1
          exact ⟨oi, hoi, h1.1, h1.2⟩
        · cases h1
  · have hlt : j < ops.size := (Array.getElem?_eq_some_iff.1 ho).1
    simp [hlt] at hl
end
end Go.Proofs.Ytchkbgekmoileaa

/- The value-level engine, twenty-first part: how a proof walks: one equation for each kind of operation, one rule for each form of control. -/
namespace Go.Proofs.Ytchkbgekmoileaa
open Go Go.RowKit
set_option linter.unusedVariables false
set_option linter.unusedSimpArgs false

/-! ### The table of types, by computation -/
def eqConst : Value → VV → Bool
  | .int k n, .int k' n' => k == k' && n == n'
  | .bool b, .bool b' => b == b'
  | .string s, .str s' => s.size == 0 && s'.size == 0
  | .slice none 0 0, .nl _ => true
  | _, _ => false
def eqConsts : List Value → List VV → Bool
  | [], [] => true
  | v :: vs, x :: xs => eqConst v x && eqConsts vs xs
  | _, _ => false
def chkD (P : Program) (t : TypeId) : TyD → Bool
  | .sl e => match P.underlying t with | some (.slice e') => e' == e | _ => false
  | .st fs => match P.underlying t with | some (.struct F) => F.toList.map (fun f => (f.offset, f.type)) == fs | _ => false
  | .ar n e => match P.underlying t with | some (.array n' e') => n' == n && e' == e | _ => false
  | .bo => match P.underlying t with | some .bool => true | _ => false
  | .it k => match P.underlying t with | some (.int k') => k' == k | _ => false
  | .ss => match P.underlying t with | some .string => true | _ => false
  | .sc => match P.underlying t with | some (.struct _) => false | some (.array _ _) => false | some _ => true | none => false
def chkZ (z : Option Value) (l : List VV) : Bool :=
  match l with
  | [] => true
  | l => match z with | some v => eqConsts v.cells.toList l | none => false
def chkT (P : Program) (t : TypeId) (d : TyE) : Bool :=
  (chkD P t d.d && (match P.info? t with | some i => i.size == d.size && i.bytes == d.bytes && chkZ i.zero d.zero | none => false)) && (match P.underlying t with | some (.struct F) => eqSt P t F | _ => true)

theorem eqConst_spec {v : Value} {x : VV} (h : eqConst v x = true) : some v = x.const? := by
  unfold eqConst at h
  split at h
  · simp only [Bool.and_eq_true, beq_iff_eq] at h
    obtain ⟨rfl, rfl⟩ := h
    rfl
  · simp only [beq_iff_eq] at h
    subst h
    rfl
  · rename_i s s'
    simp only [Bool.and_eq_true, beq_iff_eq] at h
    have : s = s' := by
      cases s with
      | mk a => cases s' with
        | mk b =>
          have h1 : a.size = 0 := h.1
          have h2 : b.size = 0 := h.2
          rw [Array.eq_empty_of_size_eq_zero h1, Array.eq_empty_of_size_eq_zero h2]
    subst this
    rfl
  · rfl
  · cases h
theorem eqConsts_spec : ∀ {vs : List Value} {xs : List VV}, eqConsts vs xs = true → vs.map some = xs.map VV.const?
  | [], [], _ => rfl
  | [], _ :: _, h => by cases h
  | _ :: _, [], h => by cases h
  | v :: vs, x :: xs, h => by
    simp only [eqConsts, Bool.and_eq_true] at h
    simp only [List.map_cons, eqConst_spec h.1, eqConsts_spec h.2]

theorem chkT_spec {P : Program} {t : TypeId} {d : TyE} (h : chkT P t d = true) : TyOK1 P t d := by
  simp only [chkT, Bool.and_eq_true] at h
  obtain ⟨⟨h1, h2⟩, h3⟩ := h
  refine ⟨?_, ?_, fun F hF => by rw [hF] at h3; exact h3⟩
  · generalize d.d = dd at h1
    unfold chkD at h1
    unfold tyD
    split at h1
    · split at h1
      · rename_i hu; rw [hu]; simp only [beq_iff_eq] at h1; simp [h1]
      · cases h1
    · split at h1
      · rename_i F hu; simp only [beq_iff_eq] at h1; exact ⟨F, hu, h1⟩
      · cases h1
    · split at h1
      · rename_i hu; rw [hu]; simp only [Bool.and_eq_true, beq_iff_eq] at h1; simp [h1]
      · cases h1
    · split at h1
      · rename_i hu; exact hu
      · cases h1
    · split at h1
      · rename_i hu; rw [hu]; simp only [beq_iff_eq] at h1; simp [h1]
      · cases h1
    · split at h1
      · rename_i hu; exact hu
      · cases h1
    · split at h1
      · cases h1
      · cases h1
      · rename_i x hs ha hu
        refine ⟨x, hu, ?_⟩
        cases x <;> first | exact (hs _ rfl).elim | exact (ha _ _ rfl).elim | trivial
      · cases h1
  · split at h2
    · rename_i i hi
      simp only [Bool.and_eq_true, beq_iff_eq] at h2
      obtain ⟨⟨h3, h4⟩, h5⟩ := h2
      refine ⟨i, hi, h3, h4, ?_⟩
      unfold chkZ at h5
      split at h5
      · rename_i hz; exact .inl hz
      · split at h5
        · rename_i v hv
          exact .inr ⟨v, hv, eqConsts_spec h5⟩
        · cases h5
    · cases h2

/-! ### Lookups -/
theorem ev_tmp (tm : Nat → VV) (H : Heap) (nx N : Nat) (lim : Option Nat) (t : Nat) : ev ⟨tm, H, nx, N, lim⟩ (.tmp t) = tm t := rfl
theorem ev_const (tm : Nat → VV) (H : Heap) (nx N : Nat) (lim : Option Nat) (v : Value) : ev ⟨tm, H, nx, N, lim⟩ (.const v) = ofConst v := rfl
theorem ev_func (tm : Nat → VV) (H : Heap) (nx N : Nat) (lim : Option Nat) (f : FuncId) : ev ⟨tm, H, nx, N, lim⟩ (.func f) = .clo f [] := rfl
theorem updV_at (t : Nat) (v : VV) (f : Nat → VV) (x : Nat) : updV t v f x = (match Nat.beq x t with | true => v | false => f x) := by
  unfold updV
  by_cases h : x = t
  · subst h; simp
  · have : Nat.beq x t = false := by
      cases hb : Nat.beq x t with
      | false => rfl
      | true => exact absurd (Nat.eq_of_beq_eq_true hb) h
    rw [if_neg h, this]
theorem updH_at (t : Nat) (v : Ent) (f : Heap) (x : Nat) : updH t v f x = if x = t then v else f x := rfl

/-- What a proof knows of a state. -/
def tmL : List (Nat × VV) → Nat → VV
  | [], _ => .any
  | (t, v) :: l, x => if x = t then v else tmL l x
def hpL : List (Nat × Ent) → Heap
  | [], _ => .dead
  | (t, v) :: l, x => if x = t then v else hpL l x

section
variable {P : Program} {E : Env} {ty : Ty} {ops : Array Oper} {rest : List Oper} {K : St → Prop} {tm : Nat → VV} {H : Heap} {nx N : Nat} {lim : Option Nat} {d t : Nat} {p : String} {af : Array Edge} {x y : Operand} {s : St}

theorem vops_nil : vops P ty ops [] s K = K s := rfl

/-- A value, put where it belongs. -/
def Puts (P : Program) (ty : Ty) (ops : Array Oper) (rest : List Oper) (K : St → Prop) (s : St) (d : Nat) (r : Option VV) : Prop :=
  match r with
  | some v => d < s.N ∧ vops P ty ops rest (s.put d v) K
  | none => False

theorem vops_val {op : Op} (hf : fcall s ⟨some d, op, t, p, af, none⟩ = none) (hv : vexec ty s ⟨some d, op, t, p, af, none⟩ = (vval ty s ⟨some d, op, t, p, af, none⟩).bind (s.putd (some d))) :
    vops P ty ops (⟨some d, op, t, p, af, none⟩ :: rest) s K = Puts P ty ops rest K s d (vval ty s ⟨some d, op, t, p, af, none⟩) := by
  simp only [vops, vop, vwant, hf, hv]
  cases vval ty s ⟨some d, op, t, p, af, none⟩ with
  | none => simp [Puts]
  | some v =>
    simp only [Option.bind_some, St.putd, Puts]
    by_cases h : d < s.N <;> simp [h]

theorem puts_some (v : VV) : Puts P ty ops rest K ⟨tm, H, nx, N, lim⟩ d (some v) = (d < N ∧ vops P ty ops rest ⟨updV d v tm, H, nx, N, lim⟩ K) := rfl
theorem puts_none : Puts P ty ops rest K s d none = False := rfl

theorem vops_move : vops P ty ops (⟨some d, .move x, t, p, af, none⟩ :: rest) s K = Puts P ty ops rest K s d (some (retype ty t (ev s x))) := vops_val rfl rfl
theorem vops_assign : vops P ty ops (⟨some d, .assign x, t, p, af, none⟩ :: rest) s K = Puts P ty ops rest K s d (some (retype ty t (ev s x))) := vops_val rfl rfl
def vpick3 (c x y : VV) : Option VV := match c with
  | .bool b => some (vPick b x y)
  | _ => none
theorem vops_pick {c : Operand} : vops P ty ops (⟨some d, .pick c x y, t, p, af, none⟩ :: rest) s K = Puts P ty ops rest K s d (vpick3 (ev s c) (ev s x) (ev s y)) := by rw [vops_val rfl rfl]; rfl
theorem vops_binOp {op : BinOp} {t1 t2 : Nat} : vops P ty ops (⟨some d, .binOp op t1 x y t2, t, p, af, none⟩ :: rest) s K = Puts P ty ops rest K s d (vBinA ty t1 op (ev s x) (ev s y)) := vops_val rfl rfl
theorem vops_unOp {op : UnOp} {t1 : Nat} : vops P ty ops (⟨some d, .unOp op t1 x, t, p, af, none⟩ :: rest) s K = Puts P ty ops rest K s d (vUn op (ev s x)) := vops_val rfl rfl
def vConv (a b : Option IntKind) (x : VV) : Option VV := match a, b, x with
  | some _, some k, .int _ n => some (.int k (k.wrap n))
  | _, _, _ => none
theorem vops_convert {t1 t2 : Nat} : vops P ty ops (⟨some d, .convert t1 t2 x, t, p, af, none⟩ :: rest) s K = Puts P ty ops rest K s d (vConv (intOfT ty t1) (intOfT ty t2) (ev s x)) := by rw [vops_val rfl rfl]; rfl
theorem vops_load {t1 : Nat} : vops P ty ops (⟨some d, .load t1 x, t, p, af, none⟩ :: rest) s K = Puts P ty ops rest K s d (vLoad ty s t1 (ev s x)) := vops_val rfl rfl
theorem vops_fieldAddr {t1 f : Nat} : vops P ty ops (⟨some d, .fieldAddr t1 x f, t, p, af, none⟩ :: rest) s K = Puts P ty ops rest K s d (vFieldAddr ty s t1 (ev s x) f) := vops_val rfl rfl
theorem vops_field {t1 f : Nat} : vops P ty ops (⟨some d, .field t1 x f, t, p, af, none⟩ :: rest) s K = Puts P ty ops rest K s d (vField ty t1 (ev s x) f) := vops_val rfl rfl
theorem vops_indexAddr {t1 : Nat} : vops P ty ops (⟨some d, .indexAddr t1 x y, t, p, af, none⟩ :: rest) s K = Puts P ty ops rest K s d (vIndexAddr ty s t1 (ev s x) (ev s y)) := vops_val rfl rfl
theorem vops_index {t1 : Nat} : vops P ty ops (⟨some d, .index t1 x y, t, p, af, none⟩ :: rest) s K = Puts P ty ops rest K s d (vIndex ty t1 (ev s x) (ev s y)) := vops_val rfl rfl
theorem vops_extract {i : Nat} : vops P ty ops (⟨some d, .extract x i, t, p, af, none⟩ :: rest) s K = Puts P ty ops rest K s d (vExtract (ev s x) i) := vops_val rfl rfl
theorem vops_slice {t1 : Nat} {l h : Option Operand} : vops P ty ops (⟨some d, .slice t1 x l h none, t, p, af, none⟩ :: rest) s K = Puts P ty ops rest K s d (vSlice ty s t1 (ev s x) (l.map (ev s)) (h.map (ev s))) := vops_val rfl rfl
theorem vops_len {b : Builtin} (hb : b ≠ .append) {xs : Array Operand} {ts : Array TypeId} : vops P ty ops (⟨some d, .call ⟨.builtin b, xs, ts⟩, t, p, af, none⟩ :: rest) s K = Puts P ty ops rest K s d (vBuiltin ty s b (xs.toList.map (ev s)) ts.toList) :=
  vops_val rfl (by cases b <;> first | rfl | exact absurd rfl hb)

/-- An operation that does more than give a value. -/
def Runs (P : Program) (ty : Ty) (ops : Array Oper) (rest : List Oper) (K : St → Prop) (r : Option St) : Prop :=
  match r with
  | some s => vops P ty ops rest s K
  | none => False
theorem runs_some : Runs P ty ops rest K (some s) = vops P ty ops rest s K := rfl
theorem runs_none : Runs P ty ops rest K none = False := rfl
theorem vops_run {o : Oper} (hg : o.guard = none) (hf : fcall s o = none) : vops P ty ops (o :: rest) s K = Runs P ty ops rest K (vexec ty s o) := by
  simp only [vops, vop, vwant, hg, hf]
  cases vexec ty s o <;> simp [Runs]
def vAlloc (s : St) (t : Option TyE) (d : Option Nat) : Option St := match t with
  | some e => xBox s e.zero d
  | none => none
theorem vops_alloc {t1 : Nat} {dd : Option Nat} : vops P ty ops (⟨dd, .alloc t1, t, p, af, none⟩ :: rest) s K = Runs P ty ops rest K (vAlloc s (ty t1) dd) := by rw [vops_run rfl rfl]; rfl
def vBoxd (s : St) (c : Option (List VV)) (d : Option Nat) : Option St := match c with
  | some vs => xBox s vs d
  | none => none
theorem vops_box {t1 : Nat} {dd : Option Nat} : vops P ty ops (⟨dd, .box t1 x, t, p, af, none⟩ :: rest) s K = Runs P ty ops rest K (vBoxd s (ev s x).cells dd) := by rw [vops_run rfl rfl]; rfl
theorem vops_store {t1 : Nat} : vops P ty ops (⟨none, .store t1 x y, t, p, af, none⟩ :: rest) s K = Runs P ty ops rest K (xStore ty s t1 (ev s x) (retype ty t1 (ev s y))) := by rw [vops_run rfl rfl]; rfl
theorem vops_build {t1 : Nat} {ps : Array (Nat × Operand)} {dd : Option Nat} : vops P ty ops (⟨dd, .build t1 ps, t, p, af, none⟩ :: rest) s K = Runs P ty ops rest K ((vBuild ty t1 (evParts ty s t1 ps)).bind (s.putd dd)) := by rw [vops_run rfl rfl]; rfl
theorem vops_buildSlice {t1 n : Nat} {ps : Array (Nat × Operand)} {dd : Option Nat} : vops P ty ops (⟨dd, .buildSlice t1 n ps, t, p, af, none⟩ :: rest) s K = Runs P ty ops rest K (xBuildSlice ty s t1 n (evParts ty s t1 ps) dd) := by rw [vops_run rfl rfl]; rfl
theorem vops_makeSlice {t1 : Nat} {dd : Option Nat} : vops P ty ops (⟨dd, .makeSlice t1 x y, t, p, af, none⟩ :: rest) s K = Runs P ty ops rest K (xMake ty s t1 (ev s x) (ev s y) dd) := by rw [vops_run rfl rfl]; rfl
theorem vops_append {t1 : Nat} {dd : Option Nat} : vops P ty ops (⟨dd, .call ⟨.builtin .append, #[x, y], #[t1, t1]⟩, t, p, af, none⟩ :: rest) s K = Runs P ty ops rest K (xAppend ty s t1 (retype ty t1 (ev s x)) (ev s y) dd) := by
  rw [vops_run rfl rfl]
  simp [vexec]

/-- A call. -/
def CallK (P : Program) (f : FuncId) (args : List VV) (s : St) (dst : Option Nat) (K : St → Prop) : Prop :=
  ((∀ x ∈ args, frzOk s.H x) ∧ ∃ v l, SatP P f (args.map (frzA s.H)) v l ∧ s.room l.length = true ∧ ∃ s', (s.imp l).putd dst (shV s.nx v) = some s' ∧ K s') ∨ OwnCall P f args s dst K ∨ SemCall P f args s dst K
/-- What is left to do behind a call. -/
def contV (P : Program) (ty : Ty) (ops : Array Oper) (rest : List Oper) (K : St → Prop) (s : St) : Prop := vops P ty ops rest s K
theorem contV_at : contV P ty ops rest K ⟨tm, H, nx, N, lim⟩ = vops P ty ops rest ⟨tm, H, nx, N, lim⟩ K := rfl
theorem vops_call {f : FuncId} {xs : Array Operand} {ts : Array TypeId} {dd : Option Nat} : vops P ty ops (⟨dd, .call ⟨.value (.func f), xs, ts⟩, t, p, af, none⟩ :: rest) s K =
    CallK P f (handed ty s xs.toList ts.toList) s dd (contV P ty ops rest K) := by
  simp only [vops, vop, vwant, fcall, List.append_nil, CallK]
  rfl
/-- A call of a function value. -/
def CallV (P : Program) (v : VV) (args : List VV) (s : St) (dst : Option Nat) (K : St → Prop) : Prop :=
  match v with
  | .clo f caps => caps.all capOk = true ∧ CallK P f (args ++ caps) s dst K
  | _ => False
theorem callV_clo {f : FuncId} {caps args : List VV} {dst : Option Nat} : CallV P (.clo f caps) args s dst K = (caps.all capOk = true ∧ CallK P f (args ++ caps) s dst K) := rfl
theorem vops_callv {u : Nat} {xs : Array Operand} {ts : Array TypeId} {dd : Option Nat} : vops P ty ops (⟨dd, .call ⟨.value (.tmp u), xs, ts⟩, t, p, af, none⟩ :: rest) ⟨tm, H, nx, N, lim⟩ K =
    CallV P (tm u) (handed ty ⟨tm, H, nx, N, lim⟩ xs.toList ts.toList) ⟨tm, H, nx, N, lim⟩ dd (contV P ty ops rest K) := by
  show _ = CallV P (tm u) (handed ty ⟨tm, H, nx, N, lim⟩ xs.toList ts.toList) ⟨tm, H, nx, N, lim⟩ dd (fun s' => vops P ty ops rest s' K)
  simp only [vops, vop, vwant, fcall]
  cases hu : tm u with
  | clo f caps =>
    simp only [CallV]
    by_cases hc : caps.all capOk = true
    · simp only [hc, if_true, true_and, CallK]
    · simp only [hc, if_false, false_and]
      simp [vexec, vval]
  | _ => simp [CallV, vexec, vval]
theorem vops_makeFunc {f : FuncId} {fi ca : Array Operand} : vops P ty ops (⟨some d, .makeFunc (.func f) fi ca, t, p, af, none⟩ :: rest) s K = Puts P ty ops rest K s d (vMakeFunc f fi.size (ca.toList.map (ev s))) := vops_val rfl rfl
theorem callK {f : FuncId} {args : List VV} {dd : Nat} {v : VV} {l : List (TypeId × List (List PT))} (hok : ∀ x ∈ args, frzOk H x) {args' : List VV} (ha : args.map (frzA H) = args') (hS : SatP P f args' v l) (hr : (⟨tm, H, nx, N, lim⟩ : St).room l.length = true)
    (hd : dd < N) (hK : K ⟨updV dd (shV nx v) tm, addH nx l H, nx + l.length, N, lim⟩) : CallK P f args ⟨tm, H, nx, N, lim⟩ (some dd) K :=
  .inl ⟨hok, v, l, by rw [ha]; exact hS, hr, _, if_pos hd, hK⟩
/-- A call that turns what lies under the tokens of σ. -/
theorem callO {f : FuncId} {args : List VV} {dd : Nat} {v : VV} {O : List Ent} (σ : List Nat) (hn : σ.Nodup) (h1 : ∀ T ∈ σ, viewOkE σ H (H T)) (h2 : ∀ x ∈ args, viewOk σ H x) {args' : List VV} (ha : args.map (viewA σ H) = args') {I : List Ent} (hI : (σ.map fun T => viewE σ H (H T)) = I)
    (hS : SatO P f args' I v O) (hd : dd < N) (hK : K ⟨updV dd (bkV σ nx v) tm, putO (bkE σ nx) σ nx O H, nx + (O.length - σ.length), N, none⟩) : CallK P f args ⟨tm, H, nx, N, none⟩ (some dd) K :=
  .inr (.inl ⟨rfl, σ, v, O, hn, h1, h2, by rw [ha, hI]; exact hS, rfl, _, if_pos hd, hK⟩)
/-- A call that is told by what it does to the state. -/
theorem callS {f : FuncId} {args : List VV} {tm : Nat → VV} {H H' : Heap} {nx N k dd : Nat} {v : VV} {K : St → Prop} (hS : SemRun P f args H nx H' k v) (hd : dd < N) (hK : K ⟨updV dd v tm, H', nx + k, N, none⟩) : CallK P f args ⟨tm, H, nx, N, none⟩ (some dd) K :=
  .inr (.inr ⟨rfl, H', k, v, hS, _, if_pos hd, hK⟩)

/-- Is it done? -/
def GuardV (P : Program) (ty : Ty) (ops : Array Oper) (o : Oper) (b : Bool) (rest : List Oper) (s : St) (K : St → Prop) (u : Nat) (v : VV) : Prop :=
  match v with
  | .bool c => if c = b then vops P ty ops (o :: rest) s K else ∃ s', s.putd o.dst (.tup []) = some s' ∧ vops P ty ops rest s' K
  | .tup [] => ∃ s', s.putd o.dst (.tup []) = some s' ∧ vops P ty ops rest s' K
  | _ => False
def Guard (P : Program) (ty : Ty) (ops : Array Oper) (o : Oper) (b : Bool) (rest : List Oper) (s : St) (K : St → Prop) (t : Option Nat) : Prop :=
  match t with
  | none => ∃ s', s.putd o.dst (.tup []) = some s' ∧ vops P ty ops rest s' K
  | some t => GuardV P ty ops o b rest s K t (s.tm t)
theorem vops_guard {dd : Option Nat} {op : Op} {j : Nat} {b : Bool} : vops P ty ops (⟨dd, op, t, p, af, some (j, b)⟩ :: rest) s K = Guard P ty ops ⟨dd, op, t, p, af, none⟩ b rest s K ((ops[j]?).bind (·.dst)) := by
  unfold Guard GuardV
  simp only [vops, vop, vwant]
  cases h : (ops[j]?).bind (·.dst) with
  | none => rfl
  | some u =>
    simp only
    cases hu : s.tm u with
    | bool c => cases c <;> cases b <;> rfl
    | tup l => cases l <;> rfl
    | _ => rfl
theorem guard_some {o : Oper} {b : Bool} {u : Nat} : Guard P ty ops o b rest ⟨tm, H, nx, N, lim⟩ K (some u) = GuardV P ty ops o b rest ⟨tm, H, nx, N, lim⟩ K u (tm u) := rfl
theorem guardV_tt {o : Oper} {u : Nat} : GuardV P ty ops o true rest s K u (.bool true) = vops P ty ops (o :: rest) s K := rfl
theorem guardV_ff {o : Oper} {u : Nat} : GuardV P ty ops o false rest s K u (.bool false) = vops P ty ops (o :: rest) s K := rfl
theorem guardV_tf {op : Op} {u : Nat} : GuardV P ty ops ⟨some d, op, t, p, af, none⟩ true rest ⟨tm, H, nx, N, lim⟩ K u (.bool false) = (d < N ∧ vops P ty ops rest ⟨updV d (.tup []) tm, H, nx, N, lim⟩ K) := by
  simp only [GuardV, St.putd]
  by_cases h : d < N <;> simp [h, St.put]
theorem guardV_ft {op : Op} {u : Nat} : GuardV P ty ops ⟨some d, op, t, p, af, none⟩ false rest ⟨tm, H, nx, N, lim⟩ K u (.bool true) = (d < N ∧ vops P ty ops rest ⟨updV d (.tup []) tm, H, nx, N, lim⟩ K) := by
  simp only [GuardV, St.putd]
  by_cases h : d < N <;> simp [h, St.put]
theorem guardV_no {op : Op} {b : Bool} {u : Nat} : GuardV P ty ops ⟨some d, op, t, p, af, none⟩ b rest ⟨tm, H, nx, N, lim⟩ K u (.tup []) = (d < N ∧ vops P ty ops rest ⟨updV d (.tup []) tm, H, nx, N, lim⟩ K) := by
  simp only [GuardV, St.putd]
  by_cases h : d < N <;> simp [h, St.put]
theorem guard_split {o : Oper} {b c : Bool} {u : Nat} {v : VV} (h0 : tm u = v) (h : v = .bool c) (h1 : c = true → GuardV P ty ops o b rest ⟨updV u (.bool true) tm, H, nx, N, lim⟩ K u (.bool true)) (h2 : c = false → GuardV P ty ops o b rest ⟨updV u (.bool false) tm, H, nx, N, lim⟩ K u (.bool false)) :
    GuardV P ty ops o b rest ⟨tm, H, nx, N, lim⟩ K u v := by
  subst h
  have he : ∀ v, tm u = v → updV u v tm = tm := fun v hv => by
    funext z
    by_cases hz : z = u
    · rw [hz, updV_same, hv]
    · rw [updV_ne _ _ hz]
  cases c with
  | true => have := h1 rfl; rwa [he _ h0] at this
  | false => have := h2 rfl; rwa [he _ h0] at this

theorem vdraw_nil {k b : Nat} : vdraw P ty ops [] k b s K = K (s.nm (b + k * 64)) := rfl
def contD (P : Program) (ty : Ty) (ops : Array Oper) (rest : List Oper) (k b : Nat) (K : St → Prop) (s : St) : Prop := vdraw P ty ops rest k b s K
theorem contD_at {k b : Nat} : contD P ty ops rest k b K ⟨tm, H, nx, N, lim⟩ = vdraw P ty ops rest k b ⟨tm, H, nx, N, lim⟩ K := rfl
theorem vdraw_cons {o : Oper} {k b : Nat} : vdraw P ty ops (o :: rest) k b s K = vops P ty ops [o] (s.win (b + k * 64) (b + (k + 1) * 64)) (contD P ty ops rest (k + 1) b K) := rfl
theorem VWP_draw_k (hT : TyOK P ty) (hm : P.follows .mixedOrders = true) {id : Nat} {l : List Oper} {Q : Exit → St → Prop} (hok : drawOK l.toArray = true) (hlim : s.lim = none) (h : vdraw P ty l.toArray l 0 s.nx s (Q .normal)) : VWP P E (.region id l.toArray true) Q s :=
  VWP_draw hT hm hok hlim (by simpa using h)

/-! ### Control -/
theorem VWP_seq_k {a b : Code} {Q : Exit → St → Prop} (h : ∀ K : St → Prop, (∀ s, VWP P E b Q s → K s) → VWP P E a (thenQ K Q) s) : VWP P E (.seq a b) Q s := VWP_seq (h _ fun _ h => h)
theorem VWP_region_k (hT : TyOK P ty) {id : Nat} {l : List Oper} {Q : Exit → St → Prop} (h : vops P ty l.toArray l s (Q .normal)) : VWP P E (.region id l.toArray false) Q s := VWP_region hT (by simpa using h)
theorem VWP_cond2 {c : Operand} {a b : Code} {Q : Exit → St → Prop} (v : Bool) (hc : ev s c = .bool v) (h1 : v = true → VWP P E a Q s) (h2 : v = false → VWP P E b Q s) : VWP P E (.cond c a b) Q s :=
  VWP_cond hc (by cases v; exact h2 rfl; exact h1 rfl)
theorem thenQ_normal {Q : Exit → St → Prop} : thenQ K Q .normal s = K s := rfl
theorem thenQ_exit {i : Nat} {Q : Exit → St → Prop} : thenQ K Q (.exit i) s = Q (.exit i) s := rfl
theorem thenQ_ret {Q : Exit → St → Prop} : thenQ K Q .ret s = Q .ret s := rfl
theorem blockQ_normal {i : Nat} {Q : Exit → St → Prop} : blockQ i Q .normal s = Q .normal s := rfl
theorem blockQ_ret {i : Nat} {Q : Exit → St → Prop} : blockQ i Q .ret s = Q .ret s := rfl
theorem blockQ_exit {i j : Nat} {Q : Exit → St → Prop} : blockQ i Q (.exit j) s = if j = i then Q .normal s else Q (.exit j) s := rfl
theorem retQ_ret {rs : List ResultVar} {v : VV} {l : List (TypeId × List (List PT))} : RetQ P ty rs v l .ret s = RetOK P ty rs v l s := rfl
theorem retQ_normal {rs : List ResultVar} {v : VV} {l : List (TypeId × List (List PT))} : RetQ P ty rs v l .normal s = RetOK P ty rs v l s := rfl

/-- A state that is known by lists. -/
theorem wk_list {s : St} {tl : List (Nat × VV)} {hl : List (Nat × Ent)} {n' : Nat} (h1 : ∀ p ∈ tl, s.tm p.1 = p.2) (h2 : ∀ p ∈ hl, s.H p.1 = p.2) (hn : s.nx ≤ n') (hlim : s.lim = none) : Wk s ⟨tmL tl, hpL hl, n', s.N, none⟩ := by
  refine ⟨fun t => ?_, fun T => ?_, hn, rfl, hlim, rfl⟩
  · have : ∀ tl : List (Nat × VV), (∀ p ∈ tl, s.tm p.1 = p.2) → tmL tl t = s.tm t ∨ tmL tl t = .any := by
      intro tl
      induction tl with
      | nil => intro _; exact .inr rfl
      | cons q tl ih =>
        intro h
        obtain ⟨u, v⟩ := q
        simp only [tmL]
        split
        · rename_i hu
          left
          rw [hu]
          exact (h (u, v) (List.mem_cons_self ..)).symm
        · exact ih fun p hp => h p (List.mem_cons_of_mem _ hp)
    exact this tl h1
  · have : ∀ hl : List (Nat × Ent), (∀ p ∈ hl, s.H p.1 = p.2) → hpL hl T = s.H T ∨ hpL hl T = .dead := by
      intro hl
      induction hl with
      | nil => intro _; exact .inr rfl
      | cons q hl ih =>
        intro h
        obtain ⟨u, v⟩ := q
        simp only [hpL]
        split
        · rename_i hu
          left
          rw [hu]
          exact (h (u, v) (List.mem_cons_self ..)).symm
        · exact ih fun p hp => h p (List.mem_cons_of_mem _ hp)
    exact this hl h2

def scalV : VV → Bool
  | .int _ _ | .bool _ | .str _ | .err _ => true
  | _ => false
theorem exV_scal {v : VV} (h : scalV v = true) : exV H v = some (v, []) := by
  cases v <;> first | rfl | (simp [scalV] at h)
theorem exA_scal {v : VV} (h : scalV v = true) (acc : List Out) : exA H v acc = some (v, acc) := by
  cases v <;> first | rfl | (simp [scalV] at h)

/-- One number, bool or string is handed back. -/
theorem ret_scal {u : Nat} {x v : VV} (h : tm u = x) (hs : scalV v = true) (he : x = v) : RetOK P ty [.tmp u] v [] ⟨tm, H, nx, N, lim⟩ := by
  subst he
  exact ⟨[], _, [x], [], rfl, by simp only [vres, h], exV_scal hs, List.nodup_nil, rfl, fun y hy => by simp at hy⟩
theorem ret_scal2 {u u' : Nat} {x y v v' : VV} (h : tm u = x) (h' : tm u' = y) (hs : scalV v = true) (hs' : scalV v' = true) (he : x = v) (he' : y = v') : RetOK P ty [.tmp u, .tmp u'] (.tup [v, v']) [] ⟨tm, H, nx, N, lim⟩ := by
  subst he; subst he'
  refine ⟨[], _, [x, y], [], rfl, by simp only [vres, h, h'], ?_, List.nodup_nil, rfl, fun y hy => by simp at hy⟩
  simp only [wrap, exV, exAs, exA_scal hs, exA_scal hs']
/-- A slice that the function made. -/
theorem ret_rf {u T n : Nat} {e : TypeId} {rows : List (List PT)} (h : tm u = .rf T n) (hH : H T = .root e rows) (hn : n = rows.length) (hp : PurRows rows) : RetOK P ty [.tmp u] (.rf 0 n) [(e, rows)] ⟨tm, H, nx, N, lim⟩ := by
  subst hn
  refine ⟨[], _, [.rf T rows.length], [(some T, e, rows)], rfl, by simp only [vres, h], ?_, by simp, rfl, fun y hy => by simp at hy; subst hy; exact hp⟩
  simp only [wrap, exV, exA, exC, hH, Nat.le_refl, if_true, List.take_length, List.nil_append, List.length_nil]
/-- A slice that the function made, and a number or bool. -/
theorem ret_rfs {u u' T n : Nat} {e : TypeId} {rows : List (List PT)} {x v : VV} (h : tm u = .rf T n) (h' : tm u' = x) (hs : scalV x = true) (hH : H T = .root e rows) (he : x = v) (hn : n = rows.length) (hp : PurRows rows) :
    RetOK P ty [.tmp u, .tmp u'] (.tup [.rf 0 n, v]) [(e, rows)] ⟨tm, H, nx, N, lim⟩ := by
  subst hn; subst he
  refine ⟨[], _, [.rf T rows.length, x], [(some T, e, rows)], rfl, by simp only [vres, h, h'], ?_, by simp, rfl, fun y hy => by simp at hy; subst hy; exact hp⟩
  simp only [wrap, exV, exAs, exA, exC, hH, Nat.le_refl, if_true, List.take_length, List.nil_append, List.length_nil]
  cases x <;> first | rfl | (simp [scalV] at hs)
theorem ret_nl {u : Nat} {e : TypeId} (h : tm u = .nl e) : RetOK P ty [.tmp u] (.rf 0 0) [(e, [])] ⟨tm, H, nx, N, lim⟩ := by
  refine ⟨[], _, [.nl e], [(none, e, [])], rfl, by simp only [vres, h], ?_, by simp, rfl, fun y hy => by simp at hy; subst hy; intro r hr; simp at hr⟩
  simp only [wrap, exV, exA, exC, List.nil_append, List.length_nil]

theorem ret_mk {rs : List ResultVar} {vs : List VV} {v : VV} {l : List (TypeId × List (List PT))} {acc : List Out} (h1 : vres ty s rs = some vs) (h2 : exV s.H (wrap vs) = some (v, acc)) (h3 : (acc.filterMap (·.1)).Nodup) (h4 : acc.map (·.2) = l)
    (h5 : ∀ x ∈ l, PurRows x.2) : RetOK P ty rs v l s := ⟨[], _, vs, acc, rfl, h1, h2, h3, h4, h5⟩
/-- As 'ret_mk', where slices that lie in rows of others are taken into their trees first. -/
theorem ret_mg {rs : List ResultVar} {vs : List VV} {v : VV} {l : List (TypeId × List (List PT))} {acc : List Out} {H' : Heap} (ms : List (Nat × Nat × Nat)) (h0 : merges ms s.H = some H') (h1 : vres ty s rs = some vs) (h2 : exV H' (wrap vs) = some (v, acc)) (h3 : (acc.filterMap (·.1)).Nodup) (h4 : acc.map (·.2) = l)
    (h5 : ∀ x ∈ l, PurRows x.2) : RetOK P ty rs v l s := ⟨ms, H', vs, acc, h0, h1, h2, h3, h4, h5⟩

/-! ### What a function hands back that turns what it is handed -/
theorem retQO_ret {rs : List ResultVar} {m : Nat} {v : VV} {O : List Ent} : RetQO P ty rs m v O .ret s = RetO P ty rs m v O s := rfl
theorem retQO_normal {rs : List ResultVar} {m : Nat} {v : VV} {O : List Ent} : RetQO P ty rs m v O .normal s = RetO P ty rs m v O s := rfl
theorem hpE_at (l : List Ent) (T : Nat) : HpE l T = (l[T]?).getD .dead := rfl
def keepsL : Nat → List Ent → Heap → Prop
  | _, [], _ => True
  | k, x :: xs, H => H k = x ∧ keepsL (k + 1) xs H
theorem keepsL_spec : ∀ {Ks : List Ent} {n : Nat} {H : Heap}, keepsL n Ks H → ∀ (k : Nat) (x : Ent), Ks[k]? = some x → H (n + k) = x
  | [], n, H, h, k, x, hx => by simp at hx
  | y :: Ks, n, H, h, 0, x, hx => by simp only [List.getElem?_cons_zero, Option.some.injEq] at hx; subst hx; exact h.1
  | y :: Ks, n, H, h, k + 1, x, hx => by
    have := keepsL_spec h.2 k x (by simpa using hx)
    rw [show n + (k + 1) = n + 1 + k by omega]
    exact this
theorem retO_mk {rs : List ResultVar} {m : Nat} {vs : List VV} {v : VV} {O K2 : List Ent} {acc acc1 : List Out} {H' : Heap} (ms : List (Nat × Nat × Nat)) (h0 : merges ms s.H = some H') (Ks : List Ent) (h1 : Ks.length = m) (h2 : keepsL 0 Ks H') (h3 : exEs m H' Ks [] = some (K2, acc1))
    (h4 : vres ty s rs = some vs) (h5 : exOV m H' (wrap vs) acc1 = some (v, acc)) (h6 : (acc.filterMap (·.1)).Nodup) (h7 : K2 ++ acc.map rootOf = O) : RetO P ty rs m v O s :=
  ⟨ms, H', Ks, K2, acc1, vs, acc, h0, h1, fun k x hx => by have := keepsL_spec h2 k x hx; rwa [Nat.zero_add] at this, h3, h4, h5, h6, h7⟩
/-- A number, bool or string is handed back, one slice was turned. -/
theorem retO_one {u : Nat} {x v : VV} {e : TypeId} {rows rows' : List (List PT)} (h : tm u = x) (hs : scalV v = true) (hH : H 0 = .root e rows) (he : x = v) (hr : rows = rows') : RetO P ty [.tmp u] 1 v [.root e rows'] ⟨tm, H, nx, N, lim⟩ := by
  subst he; subst hr
  refine retO_mk [] rfl [.root e rows] rfl ⟨hH, trivial⟩ rfl (vs := [x]) (by simp only [vres, h]) (acc := []) ?_ (by simp) rfl
  cases x <;> first | rfl | (simp [scalV] at hs)

/-- A round of a loop has gone well. -/
def NextL {X : Type} (tl : X → List (Nat × VV)) (hl : X → List (Nat × Ent)) (μ : X → Nat) (J : X → Prop) (B N : Nat) (x : X) (s' : St) : Prop :=
  ∃ ms H', merges ms s'.H = some H' ∧ ∃ x', J x' ∧ μ x' < μ x ∧ (∀ p ∈ tl x', s'.tm p.1 = p.2) ∧ (∀ p ∈ hl x', H' p.1 = p.2) ∧ B ≤ s'.nx ∧ s'.N = N ∧ s'.lim = none
theorem nextL {X : Type} {tl : X → List (Nat × VV)} {hl : X → List (Nat × Ent)} {μ : X → Nat} {J : X → Prop} {B : Nat} {x : X} (x' : X) (h1 : J x') (h2 : μ x' < μ x) (h3 : ∀ p ∈ tl x', tm p.1 = p.2) (h4 : ∀ p ∈ hl x', H p.1 = p.2) (h5 : B ≤ nx) :
    NextL tl hl μ J B N x ⟨tm, H, nx, N, none⟩ := ⟨[], _, rfl, x', h1, h2, h3, h4, h5, rfl, rfl⟩
theorem nextM {X : Type} {tl : X → List (Nat × VV)} {hl : X → List (Nat × Ent)} {μ : X → Nat} {J : X → Prop} {B : Nat} {x : X} {H' : Heap} (ms : List (Nat × Nat × Nat)) (h0 : merges ms H = some H') (x' : X) (h1 : J x') (h2 : μ x' < μ x) (h3 : ∀ p ∈ tl x', tm p.1 = p.2) (h4 : ∀ p ∈ hl x', H' p.1 = p.2) (h5 : B ≤ nx) :
    NextL tl hl μ J B N x ⟨tm, H, nx, N, none⟩ := ⟨ms, H', h0, x', h1, h2, h3, h4, h5, rfl, rfl⟩

/-- A loop whose state is known by lists. -/
theorem VWP_loopL {X : Type} (tl : X → List (Nat × VV)) (hl : X → List (Nat × Ent)) (μ : X → Nat) (J : X → Prop) (B : Nat) (x0 : X) {c : Code} {Q : Exit → St → Prop} (hJ : J x0) (h1 : ∀ p ∈ tl x0, tm p.1 = p.2) (h2 : ∀ p ∈ hl x0, H p.1 = p.2) (hB : B ≤ nx)
    (round : ∀ x nx, J x → B ≤ nx → VWP P E c (thenQ (NextL tl hl μ J B N x) Q) ⟨tmL (tl x), hpL (hl x), nx, N, none⟩) :
    VWP P E (.loop c) Q ⟨tm, H, nx, N, none⟩ := by
  refine VWP_loop (fun m s => ∃ x, J x ∧ m = μ x ∧ (∀ p ∈ tl x, s.tm p.1 = p.2) ∧ (∀ p ∈ hl x, s.H p.1 = p.2) ∧ B ≤ s.nx ∧ s.N = N ∧ s.lim = none) (μ x0) ⟨x0, hJ, rfl, h1, h2, hB, rfl, rfl⟩ ?_
  rintro m s ⟨x, k1, rfl, k2, k3, k4, k5, k6⟩
  have hw := wk_list k2 k3 (Nat.le_refl s.nx) k6
  rw [k5] at hw
  refine VWP_wk hw (VWP_post (fun e s he => ?_) (round x s.nx k1 k4))
  cases e with
  | normal =>
    obtain ⟨ms, H', j0, x', j1, j2, j3, j4, j5, j6, j7⟩ := he
    exact ⟨{ s with H := H' }, fun g a w hr => (rel_merges hr j0).imp fun g' h => h.1, μ x', j2, x', j1, rfl, j3, j4, j5, j6, j7⟩
  | _ => exact ⟨s, fun g a w hr => ⟨g, hr⟩, he⟩

theorem wrap_id {x : Int} (h : -9223372036854775808 ≤ x ∧ x ≤ 9223372036854775807) : IntKind.i64.wrap x = x := by
  rw [IntKind.wrap_i64]
  omega
end

theorem le_maxLen {n : Nat} (h : n ≤ 1152921504606846976) : (n ≤ maxLen) = True := by
  have : maxLen = 9223372036854775807 := rfl
  rw [this]
  exact eq_true (by omega)

/-! ### What a walk reckons with -/
theorem vBinA_int {ty : Ty} {t : TypeId} {op : BinOp} {k k' : IntKind} {a b : Int} : vBinA ty t op (.int k a) (.int k' b) = vBin op (isBo ty t) (.int k a) (.int k' b) := rfl
theorem vBinA_bool {ty : Ty} {t : TypeId} {op : BinOp} {a b : Bool} : vBinA ty t op (.bool a) (.bool b) = vBin op (isBo ty t) (.bool a) (.bool b) := rfl
theorem vBinA_str {ty : Ty} {t : TypeId} {op : BinOp} {a b : ByteArray} : vBinA ty t op (.str a) (.str b) = vBin op (isBo ty t) (.str a) (.str b) := rfl
theorem vBinA_agg {ty : Ty} {t : TypeId} {op : BinOp} {xs ys : List VV} : vBinA ty t op (.agg xs) (.agg ys) = vEqS ty t op xs ys := rfl
attribute [go_sem] vBinA_int vBinA_bool vBinA_str vBinA_agg vEqS eqFs eq_self bne_self_eq_false Option.isSome_some ev_func callV_clo vops_callv vops_makeFunc vMakeFunc capOk frzBox frzSl oneS frzCap capsOk VV.pt ptOk List.size_toArray vops_nil vops_move vops_assign vops_pick vops_binOp vops_unOp vops_convert vops_load vops_fieldAddr vops_field vops_indexAddr vops_index vops_extract vops_slice vops_len vops_alloc vops_box vops_store vops_build vops_buildSlice vops_makeSlice vops_append vops_call vops_guard contV_at contD_at vdraw_nil vdraw_cons St.win St.nm guard_some guardV_tt guardV_ff guardV_tf guardV_ft guardV_no puts_some runs_some ev_tmp ev_const updV_at updH_at tmL hpL ofConst retype thenQ_normal thenQ_exit thenQ_ret blockQ_normal blockQ_ret blockQ_exit retQ_ret retQ_normal if_true if_false ite_true ite_false dite_true true_and and_true Bool.false_eq_true Bool.true_eq_false Bool.not_true Bool.not_false not_true_eq_false not_false_eq_true List.getElem?_toArray List.getElem?_cons_succ List.getElem?_cons_zero List.getElem?_nil Option.getD_some Option.getD_none Option.bind_some Option.bind_none Option.map_some Option.map_none List.length_cons List.length_nil List.take_succ_cons List.take_zero List.take_nil List.drop_succ_cons List.drop_zero List.drop_nil List.map_cons List.map_nil List.replicate_zero List.replicate_succ List.range_zero List.range_succ putO bkE bkV bkA bkC tkB idx viewA viewC viewE retQO_ret retQO_normal hpE_at Nat.add_zero Nat.sub_self List.all_cons List.all_nil Bool.and_true Bool.true_and List.cons_append List.nil_append List.append_nil vBin isShift vArith vShift vStr vUn vPick vpick3 cond_true cond_false vConv intOfT isBo isStr isSl vLoad vFieldAddr vField fieldOf sizeT vPart vIndexAddr vIndex vExtract vSlice bound vBuiltin vLen vMin vMax vAlloc vBoxd xBox xStore xMake xAppend xBuildSlice vBuild evParts partTy vfill spl toCells chunks VV.cells VV.cell VV.known PT.vv plainCell rowVV zPT scal srcRows fzRows_scal frRows_scal srcTy St.putd St.put St.room Ent.live Ent.isRoot TyD.isAgg handed shV shA shC addH decide_true decide_false or_self or_false false_or or_true true_or and_self and_false false_and ne_eq beq_self_eq_true BEq.rfl List.isEmpty_nil List.length_map Int.toNat_natCast List.getElem?_map
end Go.Proofs.Ytchkbgekmoileaa
