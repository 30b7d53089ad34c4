/- The value-level engine, sixteenth part: calls, regions in order, and the forms of control. -/
import Derived.Test.YtclljpdcpcolpaaEngOd
import Derived.LoopN
import Derived.Conc.Own4
namespace Go.Proofs.Ytclljpdcpcolpaa
open Go Go.RowKit
set_option linter.unusedVariables false
set_option linter.unusedSimpArgs false

def vwant (ops : Array Oper) (s : St) (o : Oper) : Option Bool :=
  match o.guard with
  | none => some true
  | some (j, want) => match (ops[j]?).bind (·.dst) with
    | none => some false
    | some t => match s.tm t with
      | .bool b => some (b == want)
      | .tup [] => some false
      | _ => none

/-- The function that is called, with what it has caught. -/
def fcall (s : St) (o : Oper) : Option (FuncId × List Operand × List TypeId × List VV) :=
  match o.op with
  | .call c => match c.callee with
    | .value (.func f) => some (f, c.args.toList, c.argTypes.toList, [])
    | .value (.tmp t) => match s.tm t with
      | .clo f caps => if caps.all capOk = true then some (f, c.args.toList, c.argTypes.toList, caps) else none
      | _ => none
    | _ => none
  | _ => none

/-- What is handed to a call. -/
def handed (ty : Ty) (s : St) : List Operand → List TypeId → List VV
  | x :: xs, t :: ts => retype ty t (ev s x) :: handed ty s xs ts
  | x :: xs, [] => ev s x :: handed ty s xs []
  | [], _ => []

/-- One operation, and what holds behind it. -/
def vop (P : Program) (ty : Ty) (ops : Array Oper) (o : Oper) (s : St) (K : St → Prop) : Prop :=
  match vwant ops s o with
  | some true => match fcall s o with
    | some (f, xs, ts, caps) => ((∀ x ∈ handed ty s xs ts ++ caps, frzOk s.H x) ∧ ∃ v l, SatP P f ((handed ty s xs ts ++ caps).map (frzA s.H)) v l ∧ s.room l.length = true ∧ ∃ s', (s.imp l).putd o.dst (shV s.nx v) = some s' ∧ K s') ∨ OwnCall P f (handed ty s xs ts ++ caps) s o.dst K
    | none => ∃ s', vexec ty s o = some s' ∧ K s'
  | some false => ∃ s', s.putd o.dst (.tup []) = some s' ∧ K s'
  | none => False

def vops (P : Program) (ty : Ty) (ops : Array Oper) : List Oper → St → (St → Prop) → Prop
  | [], s, K => K s
  | o :: rest, s, K => vop P ty ops o s fun s' => vops P ty ops rest s' K

/-- From a state on the values to the machine's. -/
def lift (P : Program) (E : Env) (Q : Exit → St → Prop) : Exit → Act → World → Prop
  | .normal, a, w => ∃ g s, Rel P E g s a w ∧ Q .normal s
  | .exit i, a, w => ∃ g s, Rel P E g s a w ∧ Q (.exit i) s
  | .ret, a, w => ∃ g s, Rel P E g s a w ∧ Q .ret s
  | _, _, _ => False

def VWP (P : Program) (E : Env) (c : Code) (Q : Exit → St → Prop) (s : St) : Prop :=
  ∀ g a w, Rel P E g s a w → c.wp P (lift P E Q) a w

section
variable {P : Program} {E : Env} {g g' : Gh} {s : St} {a : Act} {w w' : World} {ty : Ty} {ops : Array Oper}

theorem vwant_sound (h : Rel P E g s a w) {o : Oper} {b : Bool} (hw : vwant ops s o = some b) : Region.wanted o (yielded ops a.tmps) = b := by
  unfold vwant at hw
  unfold Region.wanted
  split at hw
  · rename_i hg
    rw [hg]
    simpa using hw
  · rename_i j want hg
    rw [hg]
    show (yielded ops a.tmps j == some want) = b
    unfold yielded
    split at hw
    · rename_i hd
      rw [hd]
      simp only [Option.some.injEq] at hw
      subst hw
      rfl
    · rename_i t hd
      rw [hd]
      have ht := h.tmps t
      split at hw
      · rename_i b' hb
        rw [hb] at ht
        have ht : a.tmps.getD t undef = .bool b' := ht
        simp only [Option.some.injEq] at hw
        subst hw
        have : a.tmps[t]? = some (.bool b') := by
          rw [Array.getD_eq_getD_getElem?] at ht
          cases hx : a.tmps[t]? with
          | none => rw [hx] at ht; cases ht
          | some u => rw [hx] at ht; simp only [Option.getD_some] at ht; rw [ht]
        simp [this]
      · rename_i hb
        rw [hb] at ht
        obtain ⟨cs, h1, h2, _⟩ := ht
        have : cs = [] := by simpa using h2
        subst this
        simp only [Option.some.injEq] at hw
        subst hw
        rw [Array.getD_eq_getD_getElem?] at h1
        cases hx : a.tmps[t]? with
        | none => simp [hx]
        | some u =>
          rw [hx] at h1
          simp only [Option.getD_some] at h1
          subst h1
          simp [hx]
      · cases hw

theorem undef_rel {H : Heap} : VRel P E H g (.tup []) undef := ⟨[], rfl, rfl, fun j c u hc => by simp at hc⟩

theorem handed_rel (h : Rel P E g s a w) : ∀ (xs : List Operand) (ts : List TypeId), (handed ty s xs ts).length = xs.length ∧
    ∀ (j : Nat) (x : VV) (u : Value), (handed ty s xs ts)[j]? = some x → (xs.map a.eval)[j]? = some u → VRel P E s.H g x u
  | [], ts => ⟨by cases ts <;> rfl, fun j x u hx hu => by simp at hu⟩
  | x :: xs, [] => by
    obtain ⟨h1, h2⟩ := handed_rel h xs []
    refine ⟨by simp [handed, h1], fun j y u hy hu => ?_⟩
    cases j with
    | zero =>
      simp only [handed, List.getElem?_cons_zero, List.map_cons, Option.some.injEq] at hy hu
      subst hy; subst hu
      exact ev_rel h x
    | succ j => exact h2 j y u (by simpa [handed] using hy) (by simpa using hu)
  | x :: xs, t :: ts => by
    obtain ⟨h1, h2⟩ := handed_rel h xs ts
    refine ⟨by simp [handed, h1], fun j y u hy hu => ?_⟩
    cases j with
    | zero =>
      simp only [handed, List.getElem?_cons_zero, List.map_cons, Option.some.injEq] at hy hu
      subst hy; subst hu
      exact retype_rel t (ev_rel h x)
    | succ j => exact h2 j y u (by simpa [handed] using hy) (by simpa using hu)

theorem putd_nx {s s' : St} {d : Option Nat} {x : VV} (h : s.putd d x = some s') : s'.nx = s.nx ∧ s'.H = s.H ∧ s'.N = s.N ∧ s'.lim = s.lim := by
  cases d with
  | none => simp only [St.putd, Option.some.injEq] at h; subst h; exact ⟨rfl, rfl, rfl, rfl⟩
  | some d =>
    simp only [St.putd] at h
    split at h
    · simp only [Option.some.injEq] at h; subst h; exact ⟨rfl, rfl, rfl, rfl⟩
    · cases h

theorem fcall_spec {s : St} {o : Oper} {f : FuncId} {xs : List Operand} {ts : List TypeId} {caps : List VV} (h : fcall s o = some (f, xs, ts, caps)) :
    (caps = [] ∧ o.op = .call { callee := .value (.func f), args := xs.toArray, argTypes := ts.toArray }) ∨
    ∃ t, s.tm t = .clo f caps ∧ caps.all capOk = true ∧ o.op = .call { callee := .value (.tmp t), args := xs.toArray, argTypes := ts.toArray } := by
  unfold fcall at h
  split at h
  · rename_i c ho
    split at h
    · rename_i f' hc
      simp only [Option.some.injEq, Prod.mk.injEq] at h
      obtain ⟨rfl, rfl, rfl, rfl⟩ := h
      refine .inl ⟨rfl, ?_⟩
      rw [ho]
      cases c
      simp only at hc
      subst hc
      simp
    · rename_i t hc
      split at h
      · rename_i f' caps' ht
        split at h
        · rename_i hcap
          simp only [Option.some.injEq, Prod.mk.injEq] at h
          obtain ⟨rfl, rfl, rfl, rfl⟩ := h
          refine .inr ⟨t, ht, hcap, ?_⟩
          rw [ho]
          cases c
          simp only at hc
          subst hc
          simp
        · cases h
      · cases h
    · cases h
  · cases h

theorem run_call_clo {o : Oper} {t : Nat} {f : FuncId} {fn : Func} {args : Array Operand} {ats : Array TypeId} {cs : List Value} (hop : o.op = .call { callee := .value (.tmp t), args, argTypes := ats }) (hv : a.eval (.tmp t) = .func (.func f) #[] cs.toArray)
    (hf : P.funcs[f]? = some fn) (hname : (fn.name == "runtime.NumGoroutine") = false) (hb : fn.body.isNone = false) : (execOp a.eval o).run P w = .ok (.enter f (args.map a.eval ++ cs.toArray)) w := by
  have h1 : ¬ fn.name = "runtime.NumGoroutine" := by simpa using hname
  have h2 : ¬ fn.body = none := by cases hx : fn.body <;> simp_all
  unfold execOp
  simp [hop, resolve, hv, Deferred.ofValue, invoke, callFunc, hf, h1, h2]

/-- One operation on the machine. -/
theorem vop_sound (hT : TyOK P ty) (h : Rel P E g s a w) {o : Oper} {K : St → Prop} (hv : vop P ty ops o s K) {Kp : Act → World → Prop} {Q : Exit → Act → World → Prop}
    (hK : ∀ g' s' a' w', K s' → Rel P E g' s' a' w' → (∀ T, (s.nx ≤ T → s'.nx ≤ T) → g'.sn T = g.sn T) → Kp a' w') :
    if Region.wanted o (yielded ops a.tmps) then o.wp P a w Kp Q ∨ (o.asks P a w ∧ LetsOut Q) else Kp (a.put o.dst undef) w := by
  unfold vop at hv
  split at hv
  · rename_i hw
    rw [vwant_sound h hw, if_pos rfl]
    refine .inl ?_
    unfold Oper.wp
    split at hv
    · rename_i f xs ts caps hf
      obtain ⟨hlen, hargs⟩ := handed_rel (ty := ty) h xs ts
      have hcs : ∀ fn, P.funcs[f]? = some fn → (fn.name == "runtime.NumGoroutine") = false → fn.body.isNone = false → ∃ cs : List Value, cs.length = caps.length ∧ (∀ (j : Nat) (c : VV) (u : Value), caps[j]? = some c → cs[j]? = some u → VRel P E s.H g c u) ∧
          (execOp a.eval o).run P w = .ok (.enter f (xs.map a.eval ++ cs).toArray) w := by
        intro fn hfn hname hbody
        rcases fcall_spec hf with ⟨rfl, hop⟩ | ⟨t, ht, _, hop⟩
        · refine ⟨[], rfl, fun j c u hc => by simp at hc, ?_⟩
          rw [Conc.run_call_body hop hfn hname hbody]
          simp
        · have hr := h.tmps t
          rw [ht] at hr
          obtain ⟨cs, h1, h2, h3⟩ := hr
          refine ⟨cs, h2, fun j c u hc hu => ?_, ?_⟩
          · have := h3 j c u hc hu
            cases c <;> first | exact this | exact this.elim
          · rw [run_call_clo hop (cs := cs) h1 hfn hname hbody]
            simp
      have hall : ∀ cs : List Value, cs.length = caps.length → (∀ (j : Nat) (c : VV) (u : Value), caps[j]? = some c → cs[j]? = some u → VRel P E s.H g c u) →
          ∀ (j : Nat) (y : VV) (u : Value), (handed ty s xs ts ++ caps)[j]? = some y → (xs.map a.eval ++ cs)[j]? = some u → VRel P E s.H g y u := by
        intro cs hcl hcr j y u hy hu
        rw [List.getElem?_append] at hy
        split at hy
        · rename_i hj
          refine hargs j y u hy ?_
          rwa [List.getElem?_append_left (by simpa [hlen] using hj)] at hu
        · rename_i hj
          refine hcr _ y u hy ?_
          rw [List.getElem?_append_right (by simpa [hlen] using hj)] at hu
          simpa [hlen] using hu
      rcases hv with ⟨hok, v, l, hS, hroom, s', hput, hk⟩ | ⟨hlim, σ, v, O, hn, hok1, hok2, hS, hroom, s', hput, hk⟩
      · obtain ⟨fn, hfn, hname, hbody⟩ := hS.fn
        obtain ⟨cs, hcl, hcr, hrunE⟩ := hcs fn hfn hname hbody
        rw [hrunE]
        simp only [Oper.upon_enter]
        have hrun := hS.run w (xs.map a.eval ++ cs) (by simp [hlen, hcl]) (fun j x u hx hu => by
          simp only [List.getElem?_map, Option.map_eq_some_iff] at hx
          obtain ⟨y, hy, rfl⟩ := hx
          exact frz_rel h.heap (hall cs hcl hcr j y u hy hu) (hok y (List.mem_of_getElem? hy)))
        refine hrun.mono fun e w' he => ?_
        obtain ⟨val, g1, rfl, h1, h2, h3⟩ := he
        obtain ⟨g2, k1, k2, k3, k4⟩ := rel_import h hroom h1 h2 hS.pur hS.out h3
        obtain ⟨k5, k6, k7⟩ := putd_rel k1 k4 hput
        exact hK g2 s' _ w' hk k5 (fun T hT => k3 T (fun hh => by have := hT hh; rw [k7] at this; exact this))
      · obtain ⟨fn, hfn, hname, hbody⟩ := hS.fn
        obtain ⟨cs, hcl, hcr, hrunE⟩ := hcs fn hfn hname hbody
        rw [hrunE]
        simp only [Oper.upon_enter]
        have hrun := hS.run (callEnv σ s.H g w) (g.call σ) w (xs.map a.eval ++ cs) rfl (hrel_call h.heap hn hok1) (fun T hT => by
            have : ¬ T < σ.length := by simpa using hT
            simp [Gh.call, this]) (by simp [hlen, hcl]) (fun j x u hx hu => by
          simp only [List.getElem?_map, Option.map_eq_some_iff] at hx
          obtain ⟨y, hy, rfl⟩ := hx
          exact viewA_rel h.heap (hall cs hcl hcr j y u hy hu) (hok2 y (List.mem_of_getElem? hy)))
        refine hrun.mono fun e w' he => ?_
        obtain ⟨val, g1, rfl, h1, h2, h3, h4⟩ := he
        obtain ⟨g2, k1, k2, k3, k4⟩ := rel_back h hn hok1 (by simpa using hS.len) hroom hS.kept (fun k y hy => hS.new k y (by simpa using hy)) h1 h2 h3 hS.out h4
        obtain ⟨k5, k6, k7⟩ := putd_rel k1 k4 hput
        exact hK g2 s' _ w' hk k5 (fun T hT => k3 T (fun hh => by have := hT hh; rw [k7] at this; exact this))
    · obtain ⟨s', hx, hk⟩ := hv
      obtain ⟨g', a', w', h1, h2, h3, h4⟩ := does_exec hT h hx
      rcases h4 with ⟨v, hr, rfl⟩ | ⟨hr, rfl⟩
      · rw [hr]; exact hK g' s' _ w' hk h1 h3
      · rw [hr]; exact hK g' s' _ w' hk h1 h3
  · rename_i hw
    rw [vwant_sound h hw, if_neg (by simp)]
    obtain ⟨s', hput, hk⟩ := hv
    obtain ⟨k5, k6, k7⟩ := putd_rel h undef_rel hput
    exact hK g s' _ w hk k5 (fun _ _ => rfl)
  · exact hv.elim

theorem vops_sound (hT : TyOK P ty) {Q : Exit → St → Prop} : ∀ (l : List Oper) (g : Gh) (s : St) (a : Act) (w : World), Rel P E g s a w → vops P ty ops l s (Q .normal) → wpList P ops (lift P E Q) l a w
  | [], g, s, a, w, h, hv => ⟨g, s, h, hv⟩
  | o :: rest, g, s, a, w, h, hv =>
    vop_sound hT h hv fun g' s' a' w' hk hr _ => vops_sound hT rest g' s' a' w' hr hk

theorem VWP_region (hT : TyOK P ty) {id : Nat} {Q : Exit → St → Prop} (h : vops P ty ops ops.toList s (Q .normal)) : VWP P E (.region id ops false) Q s :=
  fun g a w hr => wp_region_list (vops_sound hT _ g s a w hr h)

theorem lift_mono {Q Q' : Exit → St → Prop} (hq : ∀ e s, Q e s → Q' e s) {e : Exit} {a : Act} {w : World} (he : lift P E Q e a w) : lift P E Q' e a w := by
  cases e <;> first | exact he | (obtain ⟨g, s, h1, h2⟩ := he; exact ⟨g, s, h1, hq _ _ h2⟩)

theorem VWP_mono {c : Code} {Q Q' : Exit → St → Prop} (hq : ∀ e s, Q e s → Q' e s) (h : VWP P E c Q s) : VWP P E c Q' s :=
  fun g a w hr => Go.wp_mono (h g a w hr) fun _ _ _ he => lift_mono hq he

/-- Behind a form of control, the state may be told otherwise. -/
theorem VWP_post {c : Code} {Q Q' : Exit → St → Prop} (hq : ∀ e s, Q e s → ∃ s', (∀ g a w, Rel P E g s a w → ∃ g', Rel P E g' s' a w) ∧ Q' e s') (h : VWP P E c Q s) : VWP P E c Q' s :=
  fun g a w hr => Go.wp_mono (h g a w hr) fun e a w he => by
    cases e <;> first
      | exact he
      | (obtain ⟨g, s, h1, h2⟩ := he
         obtain ⟨s', h3, h4⟩ := hq _ _ h2
         obtain ⟨g', h5⟩ := h3 g a w h1
         exact ⟨g', s', h5, h4⟩)

theorem VWP_skip {Q : Exit → St → Prop} (h : Q .normal s) : VWP P E .skip Q s := fun g a w hr => wp_skip ⟨g, s, hr, h⟩
theorem VWP_exit {id : Nat} {Q : Exit → St → Prop} (h : Q (.exit id) s) : VWP P E (.exit id) Q s := fun g a w hr => wp_exit ⟨g, s, hr, h⟩
theorem VWP_ret {Q : Exit → St → Prop} (h : Q .ret s) : VWP P E .ret Q s := fun g a w hr => wp_ret ⟨g, s, hr, h⟩

def thenQ (K : St → Prop) (Q : Exit → St → Prop) : Exit → St → Prop
  | .normal, s => K s
  | e, s => Q e s
def blockQ (id : Nat) (Q : Exit → St → Prop) : Exit → St → Prop
  | .exit i, s => if i = id then Q .normal s else Q (.exit i) s
  | e, s => Q e s

theorem VWP_seq {x y : Code} {Q : Exit → St → Prop} (h : VWP P E x (thenQ (VWP P E y Q) Q) s) : VWP P E (.seq x y) Q s :=
  fun g a w hr => wp_seq (Go.wp_mono (h g a w hr) fun e a w he => by
    cases e
    case normal => obtain ⟨g, s, h1, h2⟩ := he; exact h2 g a w h1
    all_goals exact he)

theorem VWP_block {id : Nat} {c : Code} {Q : Exit → St → Prop} (h : VWP P E c (blockQ id Q) s) : VWP P E (.block id c) Q s :=
  fun g a w hr => wp_block (Go.wp_mono (h g a w hr) fun e a w he => by
    cases e
    case exit i =>
      obtain ⟨g, s, h1, h2⟩ := he
      by_cases c : i = id
      · subst c
        simp only [blockQ, if_true] at h2
        simp only [Exit.inBlock, if_true]
        exact ⟨g, s, h1, h2⟩
      · simp only [blockQ, if_neg c] at h2
        simp only [Exit.inBlock, if_neg c]
        exact ⟨g, s, h1, h2⟩
    all_goals exact he)

theorem VWP_cond {c : Operand} {x y : Code} {b : Bool} {Q : Exit → St → Prop} (hc : ev s c = .bool b) (h : VWP P E (if b then x else y) Q s) : VWP P E (.cond c x y) Q s :=
  fun g a w hr => wp_cond (t := b) (by have := ev_rel hr c; rw [hc] at this; exact this) (h g a w hr)

theorem VWP_loop {c : Code} {Q : Exit → St → Prop} (I : Nat → St → Prop) (n : Nat) (h0 : I n s) (round : ∀ n s, I n s → VWP P E c (thenQ (fun s' => ∃ m, m < n ∧ I m s') Q) s) : VWP P E (.loop c) Q s := by
  intro g a w hr
  have key : ∀ k m g s a w, m < k → I m s → Rel P E g s a w → Code.rounds P c (lift P E Q) k a w := by
    intro k
    induction k with
    | zero => intro m g s a w hm; omega
    | succ k ih =>
      intro m g s a w hm hI hr
      rw [rounds_succ]
      refine Go.wp_mono (round m s hI g a w hr) fun e a w he => ?_
      cases e
      case normal =>
        obtain ⟨g, s, h1, m', h2, h3⟩ := he
        exact ih m' g s a w (by omega) h3 h1
      all_goals exact he
  exact wp_loop_rounds (n + 1) (key (n + 1) n g s a w (Nat.lt_succ_self _) h0 hr)

/-- What is not needed any more may be forgotten. -/
structure Wk (s s' : St) : Prop where
  tm : ∀ t, s'.tm t = s.tm t ∨ s'.tm t = .any
  H : ∀ T, s'.H T = s.H T ∨ s'.H T = .dead
  nx : s.nx ≤ s'.nx
  N : s'.N = s.N
  lim : s.lim = none ∧ s'.lim = none

theorem hrel_wk {H H' : Heap} (hH : ∀ T, H' T = H T ∨ H' T = .dead) (h : HRel P E g H w) : HRel P E g H' w ∧ HLe g H g H' := by
  have hle : HLe g H g H' := by
    refine ⟨fun _ h => h, fun X e rows hX hh => ?_, fun X hX hh => ?_, fun X hX _ => rfl, fun X hX _ => rfl⟩
    · rcases hH X with h1 | h1
      · rw [h1] at hh; exact ⟨rows, hh⟩
      · rw [h1] at hh; cases hh
    · rcases hH X with h1 | h1
      · rwa [h1] at hh
      · rw [h1] at hh; cases hh
  refine ⟨⟨h.frm, fun X e rows hX p e2 rows2 hp => ?_, fun X cs hX => ?_, fun X hX => ?_⟩, hle⟩
  · rcases hH X with h1 | h1
    · rw [h1] at hX
      exact node_mono hle (h.node X e rows hX p e2 rows2 hp) (fun _ => rfl) (fun _ _ hb => hb) (fun _ _ _ => rfl)
    · rw [h1] at hX; cases hX
  · rcases hH X with h1 | h1
    · rw [h1] at hX
      exact box_mono hle (h.box X cs hX) rfl (fun hh => hh) (fun _ _ hh => hh) (fun cur e he => ⟨cur, he, fun _ _ _ => rfl⟩)
    · rw [h1] at hX; cases hX
  · rcases hH X with h1 | h1
    · rw [h1] at hX; exact h.seen X hX
    · rw [h1] at hX; cases hX

theorem rel_wk {s' : St} (h : Rel P E g s a w) (k : Wk s s') : Rel P E g s' a w := by
  obtain ⟨h1, h2⟩ := hrel_wk k.H h.heap
  refine ⟨by rw [h.size, k.N], h.defers, h1, fun T hT => ?_, fun t => ?_, E.pinOk _ _ _ _ h2 h.pin⟩
  · refine h.fresh T ?_
    unfold St.fresh at hT ⊢
    rw [k.lim.1]
    exact ⟨Nat.le_trans k.nx hT.1, trivial⟩
  · rcases k.tm t with h3 | h3
    · rw [h3]; exact vrel_mono h2 (h.tmps t)
    · rw [h3]; trivial

theorem VWP_wk {c : Code} {Q : Exit → St → Prop} {s' : St} (k : Wk s s') (h : VWP P E c Q s') : VWP P E c Q s := fun g a w hr => h g a w (rel_wk hr k)
end
end Go.Proofs.Ytclljpdcpcolpaa
