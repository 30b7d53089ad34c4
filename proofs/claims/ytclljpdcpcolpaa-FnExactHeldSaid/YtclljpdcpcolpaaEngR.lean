/- The value-level engine, eighteenth part: regions whose order is open. -/
import Derived.Test.YtclljpdcpcolpaaEngQb
import Derived.Orders
namespace Go.Proofs.Ytclljpdcpcolpaa
open Go Go.RowKit
set_option linter.unusedVariables false
set_option linter.unusedSimpArgs false

def vstep (P : Program) (ty : Ty) (ops : Array Oper) (o : Oper) (s s' : St) : Prop := vop P ty ops o s (· = s')

def St.win (s : St) (lo hi : Nat) : St := { s with nx := lo, lim := some hi }
def St.nm (s : St) (n : Nat) : St := { s with nx := n, lim := none }

def tokP : VV → List Nat
  | .bp T _ => [T]
  | _ => []
def tokC : VV → List Nat
  | .clo _ caps => caps.flatMap tokP
  | .rf T _ => [T]
  | .bp T _ => [T]
  | .np T _ _ => [T]
  | .bs T _ _ _ => [T]
  | _ => []
def tokA : VV → List Nat
  | .agg vs => vs.flatMap tokC
  | x => tokC x
def toks : VV → List Nat
  | .tup vs => vs.flatMap tokA
  | x => tokA x

/-- Whoever reads a variable whole reads it and the slices that it holds. -/
def ptToks : VV → List Nat
  | .rf T _ => [T]
  | _ => []
/-- The tokens that a call may look at: those of its arguments, and those that lie in the variables that it is handed. -/
def deepC (H : Heap) (x : VV) : List Nat :=
  match x with
  | .bp T j => match H T with
    | .box cs => (cs.drop j).flatMap ptToks
    | _ => []
  | .clo _ caps => caps.flatMap fun c => match c with
    | .bp T j => (match H T with | .box cs => (cs.drop j).flatMap ptToks | _ => [])
    | _ => []
  | _ => []
def deepA (H : Heap) : VV → List Nat
  | .agg vs => vs.flatMap (deepC H)
  | x => deepC H x

def putf (d : Option Nat) (v : VV) (f : Nat → VV) : Nat → VV :=
  match d with
  | some d => updV d v f
  | none => f
def ov (n m : Nat) (δ H : Heap) : Heap := fun T => if n ≤ T ∧ T < m then δ T else H T
/-- What a quiet operation does: a value, and entries for tokens of its own. -/
def eff (d : Option Nat) (v : VV) (δ : Heap) (n' : Nat) (s : St) : St :=
  { s with tm := putf d v s.tm, H := ov s.nx n' δ s.H, nx := n' }

def dryOp (o : Oper) : Bool :=
  match o.op with
  | .move _ | .assign _ | .pick .. | .binOp .. | .unOp .. | .convert .. | .field .. | .index .. | .extract .. | .makeFunc .. | .build .. => true
  | _ => false
def quietOp (o : Oper) : Bool :=
  match o.op with
  | .store .. => false
  | .call c => match c.callee with
    | .builtin .append => false
    | _ => true
  | _ => true

/-- What an operation looks at is the same. -/
structure Agree (ops : Array Oper) (o : Oper) (s s2 : St) : Prop where
  nx : s2.nx = s.nx
  lim : s2.lim = s.lim
  N : s2.N = s.N
  tm : ∀ t ∈ o.looksAt ops, s2.tm t = s.tm t
  H : ∀ t ∈ o.looksAt ops, ∀ T ∈ toks (s.tm t), s2.H T = s.H T
  D : ∀ t ∈ o.looksAt ops, ∀ T ∈ deepA s.H (s.tm t), s2.H T = s.H T

section
variable {P : Program} {E : Env} {g g' : Gh} {s s2 s' : St} {a : Act} {w w' : World} {ty : Ty} {ops : Array Oper} {o : Oper}

theorem vop_ex {K : St → Prop} : vop P ty ops o s K ↔ ∃ s', vstep P ty ops o s s' ∧ K s' := by
  unfold vstep vop
  constructor
  · intro h
    split at h
    · split at h
      · rcases h with ⟨h1, v, l, h2, h3, s', h4, h5⟩ | ⟨h1, σ, v, O, h2, h3, h4, h5, h6, s', h7, h8⟩
        · exact ⟨s', .inl ⟨h1, v, l, h2, h3, s', h4, rfl⟩, h5⟩
        · exact ⟨s', .inr ⟨h1, σ, v, O, h2, h3, h4, h5, h6, s', h7, rfl⟩, h8⟩
      · obtain ⟨s', h4, h5⟩ := h
        exact ⟨s', ⟨s', h4, rfl⟩, h5⟩
    · obtain ⟨s', h4, h5⟩ := h
      exact ⟨s', ⟨s', h4, rfl⟩, h5⟩
    · exact h.elim
  · rintro ⟨s', h, hk⟩
    split at h
    · split at h
      · rcases h with ⟨h1, v, l, h2, h3, s2, h4, rfl⟩ | ⟨h1, σ, v, O, h2, h3, h4, h5, h6, s2, h7, rfl⟩
        · exact .inl ⟨h1, v, l, h2, h3, s2, h4, hk⟩
        · exact .inr ⟨h1, σ, v, O, h2, h3, h4, h5, h6, s2, h7, hk⟩
      · obtain ⟨s2, h4, rfl⟩ := h
        exact ⟨s2, h4, hk⟩
    · obtain ⟨s2, h4, rfl⟩ := h
      exact ⟨s2, h4, hk⟩
    · exact h.elim

theorem putd_putf {d : Option Nat} {x : VV} (h : s.putd d x = some s') : s' = { s with tm := putf d x s.tm } ∧ ∀ s2 : St, s2.N = s.N → s2.putd d x = some { s2 with tm := putf d x s2.tm } := by
  cases d with
  | none => simp only [St.putd, Option.some.injEq] at h; subst h; exact ⟨rfl, fun s2 _ => rfl⟩
  | some d =>
    simp only [St.putd] at h
    split at h
    · rename_i hd
      simp only [Option.some.injEq] at h; subst h
      refine ⟨rfl, fun s2 hN => ?_⟩
      simp only [St.putd]
      rw [if_pos (by rw [hN]; exact hd)]
      rfl
    · cases h

theorem vwant_agree (ht : ∀ t ∈ o.looksAt ops, s2.tm t = s.tm t) : vwant ops s2 o = vwant ops s o := by
  unfold vwant
  split
  · rfl
  · rename_i j want hg
    cases hd : (ops[j]?).bind (·.dst) with
    | none => rfl
    | some t =>
      simp only
      rw [ht t (by
        unfold Oper.looksAt
        refine List.mem_append_right _ ?_
        rw [hg]
        simp [hd])]

theorem mem_looks {t : Nat} (h : Operand.tmp t ∈ o.op.operands.toList) : t ∈ o.looksAt ops :=
  List.mem_append_left _ (List.mem_filterMap.2 ⟨.tmp t, h, rfl⟩)

theorem ev_agree (ht : ∀ t ∈ o.looksAt ops, s2.tm t = s.tm t) {x : Operand} (hx : x ∈ o.op.operands.toList) : ev s2 x = ev s x := by
  cases x with
  | tmp t => exact ht t (mem_looks hx)
  | _ => rfl

theorem H_agree (ht : ∀ t ∈ o.looksAt ops, ∀ T ∈ toks (s.tm t), s2.H T = s.H T) {x : Operand} (hx : x ∈ o.op.operands.toList) : ∀ T ∈ toks (ev s x), s2.H T = s.H T := by
  cases x with
  | tmp t => exact ht t (mem_looks hx)
  | const v =>
    intro T hT
    simp only [ev, ofConst] at hT
    split at hT <;> simp [toks, tokA, tokC] at hT
  | global n => intro T hT; simp [ev, toks, tokA, tokC] at hT
  | func n => intro T hT; simp [ev, toks, tokA, tokC] at hT

/-! ### Reading by what is looked at -/
theorem vLoad_agree {x : VV} {t : TypeId} (h : ∀ T ∈ toks x, s2.H T = s.H T) : vLoad ty s2 t x = vLoad ty s t x := by
  cases x <;> first | rfl | (have := h _ (List.mem_singleton.2 rfl); simp only [vLoad, this])
theorem vFieldAddr_agree {x : VV} {t : TypeId} {f : Nat} (h : ∀ T ∈ toks x, s2.H T = s.H T) : vFieldAddr ty s2 t x f = vFieldAddr ty s t x f := by
  cases x <;> first | rfl | (have := h _ (List.mem_singleton.2 rfl); simp only [vFieldAddr, this])
theorem vIndexAddr_agree {x i : VV} {t : TypeId} (h : ∀ T ∈ toks x, s2.H T = s.H T) : vIndexAddr ty s2 t x i = vIndexAddr ty s t x i := by
  cases x <;> first | rfl | (have := h _ (List.mem_singleton.2 rfl); simp only [vIndexAddr, this])
theorem vSlice_agree {x : VV} {t : TypeId} {lo hi : Option VV} (h : ∀ T ∈ toks x, s2.H T = s.H T) : vSlice ty s2 t x lo hi = vSlice ty s t x lo hi := by
  cases x <;> first | rfl | (have := h _ (List.mem_singleton.2 rfl); simp only [vSlice, this])
theorem vLen_agree {x : VV} {t : TypeId} (h : ∀ T ∈ toks x, s2.H T = s.H T) : vLen ty s2 t x = vLen ty s t x := by
  cases x <;> first | rfl | (have := h _ (List.mem_singleton.2 rfl); simp only [vLen, this])
theorem pt_agree {H H2 : Heap} {x : VV} (h : ∀ T ∈ ptToks x, H2 T = H T) : x.pt H2 = x.pt H ∧ (ptOk H2 x ↔ ptOk H x) := by
  cases x with
  | rf T n => have := h T (List.mem_singleton.2 rfl); simp only [VV.pt, ptOk, this, true_and]
  | _ => exact ⟨rfl, Iff.rfl⟩

theorem box_agree {H H2 : Heap} {T j : Nat} (h : H2 T = H T) (h2 : ∀ cs, H T = .box cs → ∀ X ∈ (cs.drop j).flatMap ptToks, H2 X = H X) :
    frzBox H2 T j = frzBox H T j ∧ ((match H2 T with | .box cs => ∀ x ∈ cs.drop j, ptOk H2 x | _ => False) ↔ (match H T with | .box cs => ∀ x ∈ cs.drop j, ptOk H x | _ => False)) := by
  simp only [frzBox, h]
  cases hT : H T with
  | box cs =>
    have h3 : ∀ x ∈ cs.drop j, x.pt H2 = x.pt H ∧ (ptOk H2 x ↔ ptOk H x) := fun x hx => pt_agree fun X hX => h2 cs hT X (List.mem_flatMap.2 ⟨x, hx, hX⟩)
    constructor
    · simp only [VV.fp.injEq]
      exact List.map_congr_left fun x hx => (h3 x hx).1
    · exact forall_congr' fun x => forall_congr' fun hx => (h3 x hx).2
  | _ => exact ⟨rfl, Iff.rfl⟩

theorem frzC_agree {H H2 : Heap} {x : VV} (h : ∀ T ∈ tokC x, H2 T = H T) (hd : ∀ T ∈ deepC H x, H2 T = H T) : frzC H2 x = frzC H x ∧ (frzOkC H2 x ↔ frzOkC H x) := by
  cases x with
  | rf T n => have := h T (List.mem_singleton.2 rfl); simp only [frzC, frzOkC, this, true_and]
  | bp T j =>
    have := box_agree (j := j) (h T (List.mem_singleton.2 rfl)) (fun cs hT X hX => hd X (by simp only [deepC, hT]; exact hX))
    exact ⟨this.1, this.2⟩
  | bs T j n e =>
    have h1 : H2 T = H T := h T (List.mem_singleton.2 rfl)
    simp only [frzC, frzSl, frzOkC, h1, true_and]
  | clo f caps =>
    have h3 : ∀ c ∈ caps, frzCap H2 c = frzCap H c ∧ (capsOk H2 c ↔ capsOk H c) := by
      intro c hc
      cases c with
      | bp T j =>
        have h4 : H2 T = H T := h T (by simp only [tokC, List.mem_flatMap]; exact ⟨_, hc, List.mem_singleton.2 rfl⟩)
        have := box_agree (j := j) h4 (fun cs hT X hX => hd X (by
          simp only [deepC, List.mem_flatMap]
          exact ⟨_, hc, by simp only [hT]; exact hX⟩))
        exact ⟨this.1, this.2⟩
      | _ => exact ⟨rfl, Iff.rfl⟩
    constructor
    · simp only [frzC, VV.clo.injEq, true_and]
      exact List.map_congr_left fun c hc => (h3 c hc).1
    · simp only [frzOkC]
      exact forall_congr' fun c => forall_congr' fun hc => (h3 c hc).2
  | _ => exact ⟨rfl, Iff.rfl⟩
theorem frzA_agree {H H2 : Heap} {x : VV} (h : ∀ T ∈ toks x, H2 T = H T) (hd : ∀ T ∈ deepA H x, H2 T = H T) : frzA H2 x = frzA H x ∧ (frzOk H2 x ↔ frzOk H x) := by
  cases x with
  | agg vs =>
    have h' : ∀ y ∈ vs, ∀ T ∈ tokC y, H2 T = H T := fun y hy T hT => h T (by simp only [toks, tokA, List.mem_flatMap]; exact ⟨y, hy, hT⟩)
    have hd' : ∀ y ∈ vs, ∀ T ∈ deepC H y, H2 T = H T := fun y hy T hT => hd T (by simp only [deepA, List.mem_flatMap]; exact ⟨y, hy, hT⟩)
    constructor
    · simp only [frzA, VV.agg.injEq]
      exact List.map_congr_left fun y hy => (frzC_agree (h' y hy) (hd' y hy)).1
    · simp only [frzOk]
      exact forall_congr' fun y => forall_congr' fun hy => (frzC_agree (h' y hy) (hd' y hy)).2
  | tup vs => exact ⟨rfl, Iff.rfl⟩
  | rf T n => exact frzC_agree (x := .rf T n) h hd
  | bp T n => exact frzC_agree (x := .bp T n) h hd
  | bs T j n e => exact frzC_agree (x := .bs T j n e) h hd
  | clo f c => exact frzC_agree (x := .clo f c) h hd
  | _ => exact ⟨rfl, Iff.rfl⟩

theorem retype_toks {t : TypeId} {x : VV} : toks (retype ty t x) = toks x := by
  unfold retype
  split
  · split <;> rfl
  · rfl

theorem flatMap_same {α β : Type} {f g : α → List β} : ∀ {l : List α}, (∀ x ∈ l, f x = g x) → l.flatMap f = l.flatMap g
  | [], _ => rfl
  | x :: l, h => by rw [List.flatMap_cons, List.flatMap_cons, h x (List.mem_cons_self ..), flatMap_same fun y hy => h y (List.mem_cons_of_mem _ hy)]

theorem deepA_agree {H H2 : Heap} {x : VV} (h : ∀ T ∈ toks x, H2 T = H T) : deepA H2 x = deepA H x := by
  have key : ∀ x : VV, (∀ T ∈ tokC x, H2 T = H T) → deepC H2 x = deepC H x := by
    intro x hx
    cases x with
    | bp T j => have := hx T (List.mem_singleton.2 rfl); simp only [deepC, this]
    | clo f caps =>
      simp only [deepC]
      have : ∀ c ∈ caps, (match c with | .bp T j => (match H2 T with | .box cs => (cs.drop j).flatMap ptToks | _ => []) | _ => ([] : List Nat)) = (match c with | .bp T j => (match H T with | .box cs => (cs.drop j).flatMap ptToks | _ => []) | _ => []) := by
        intro c hc
        cases c with
        | bp T j =>
          have := hx T (by simp only [tokC, List.mem_flatMap]; exact ⟨_, hc, List.mem_singleton.2 rfl⟩)
          simp only [this]
        | _ => rfl
      exact flatMap_same this
    | _ => rfl
  cases x with
  | agg vs =>
    simp only [deepA]
    exact flatMap_same fun y hy => key y fun T hT => h T (by simp only [toks, tokA, List.mem_flatMap]; exact ⟨y, hy, hT⟩)
  | tup vs => rfl
  | rf T n => exact key (.rf T n) h
  | bp T n => exact key (.bp T n) h
  | np T i j => exact key (.np T i j) h
  | clo f c => exact key (.clo f c) h
  | _ => rfl

theorem fcall_agree (htm : ∀ t ∈ o.looksAt ops, s2.tm t = s.tm t) : fcall s2 o = fcall s o := by
  unfold fcall
  cases ho : o.op with
  | call c =>
    simp only
    cases hc : c.callee with
    | value f =>
      cases f with
      | tmp t =>
        have : s2.tm t = s.tm t := htm t (mem_looks (by simp [ho, Op.operands, Call.operands, hc]))
        simp only [this]
      | _ => rfl
    | _ => rfl
  | _ => rfl

theorem D_agree (hD : ∀ t ∈ o.looksAt ops, ∀ T ∈ deepA s.H (s.tm t), s2.H T = s.H T) {x : Operand} (hx : x ∈ o.op.operands.toList) : ∀ T ∈ deepA s.H (ev s x), s2.H T = s.H T := by
  cases x with
  | tmp t => exact hD t (mem_looks hx)
  | const v =>
    intro T hT
    simp only [ev, ofConst] at hT
    split at hT <;> simp [deepA, deepC] at hT
  | global n => intro T hT; simp [ev, deepA, deepC] at hT
  | func n => intro T hT; simp [ev, deepA, deepC] at hT
theorem retype_deep {t : TypeId} {x : VV} {H : Heap} : deepA H (retype ty t x) = deepA H x := by
  unfold retype
  split
  · split <;> rfl
  · rfl

theorem handed_agree (htm : ∀ t ∈ o.looksAt ops, s2.tm t = s.tm t) (hH : ∀ t ∈ o.looksAt ops, ∀ T ∈ toks (s.tm t), s2.H T = s.H T) (hD : ∀ t ∈ o.looksAt ops, ∀ T ∈ deepA s.H (s.tm t), s2.H T = s.H T) : ∀ (xs : List Operand) (ts : List TypeId), (∀ x ∈ xs, x ∈ o.op.operands.toList) →
    handed ty s2 xs ts = handed ty s xs ts ∧ ∀ y ∈ handed ty s xs ts, (∀ T ∈ toks y, s2.H T = s.H T) ∧ ∀ T ∈ deepA s.H y, s2.H T = s.H T
  | [], ts, _ => by cases ts <;> exact ⟨rfl, fun y hy => by simp [handed] at hy⟩
  | x :: xs, [], hx => by
    obtain ⟨h1, h2⟩ := handed_agree htm hH hD xs [] fun y hy => hx y (List.mem_cons_of_mem _ hy)
    have h0 := hx x (List.mem_cons_self ..)
    refine ⟨by simp only [handed, h1, ev_agree htm h0], fun y hy => ?_⟩
    rcases List.mem_cons.1 hy with rfl | hy
    · exact ⟨H_agree hH h0, D_agree hD h0⟩
    · exact h2 y hy
  | x :: xs, t :: ts, hx => by
    obtain ⟨h1, h2⟩ := handed_agree htm hH hD xs ts fun y hy => hx y (List.mem_cons_of_mem _ hy)
    have h0 := hx x (List.mem_cons_self ..)
    refine ⟨by simp only [handed, h1, ev_agree htm h0], fun y hy => ?_⟩
    rcases List.mem_cons.1 hy with rfl | hy
    · rw [retype_toks, retype_deep]; exact ⟨H_agree hH h0, D_agree hD h0⟩
    · exact h2 y hy

theorem evParts_agree (htm : ∀ t ∈ o.looksAt ops, s2.tm t = s.tm t) {t : TypeId} {parts : Array (Nat × Operand)} (hx : ∀ p ∈ parts.toList, p.2 ∈ o.op.operands.toList) : evParts ty s2 t parts = evParts ty s t parts := by
  unfold evParts
  refine List.map_congr_left fun p hp => ?_
  rw [ev_agree htm (hx p hp)]

theorem vval_agree (htm : ∀ t ∈ o.looksAt ops, s2.tm t = s.tm t) (hH : ∀ t ∈ o.looksAt ops, ∀ T ∈ toks (s.tm t), s2.H T = s.H T) : vval ty s2 o = vval ty s o := by
  have he : ∀ {x : Operand}, x ∈ o.op.operands.toList → ev s2 x = ev s x := fun hx => ev_agree htm hx
  have hh : ∀ {x : Operand}, x ∈ o.op.operands.toList → ∀ T ∈ toks (ev s x), s2.H T = s.H T := fun hx => H_agree hH hx
  unfold vval
  cases ho : o.op with
  | move x => simp only [he (x := x) (by simp [ho, Op.operands])]
  | assign x => simp only [he (x := x) (by simp [ho, Op.operands])]
  | pick c x y => simp only [he (x := x) (by simp [ho, Op.operands]), he (x := y) (by simp [ho, Op.operands]), he (x := c) (by simp [ho, Op.operands])]
  | binOp op t x y t' => simp only [he (x := x) (by simp [ho, Op.operands]), he (x := y) (by simp [ho, Op.operands])]
  | unOp op t x => simp only [he (x := x) (by simp [ho, Op.operands])]
  | convert t t' x => simp only [he (x := x) (by simp [ho, Op.operands])]
  | load t x => simp only [he (x := x) (by simp [ho, Op.operands]), vLoad_agree (hh (x := x) (by simp [ho, Op.operands]))]
  | fieldAddr t x f => simp only [he (x := x) (by simp [ho, Op.operands]), vFieldAddr_agree (hh (x := x) (by simp [ho, Op.operands]))]
  | field t x f => simp only [he (x := x) (by simp [ho, Op.operands])]
  | indexAddr t x i => simp only [he (x := x) (by simp [ho, Op.operands]), he (x := i) (by simp [ho, Op.operands]), vIndexAddr_agree (hh (x := x) (by simp [ho, Op.operands]))]
  | index t x i => simp only [he (x := x) (by simp [ho, Op.operands]), he (x := i) (by simp [ho, Op.operands])]
  | extract x i => simp only [he (x := x) (by simp [ho, Op.operands])]
  | slice t x lo hi mx =>
    cases mx with
    | some m => rfl
    | none =>
      have h1 : lo.map (ev s2) = lo.map (ev s) := by
        cases lo with
        | none => rfl
        | some l => simp only [Option.map_some, he (x := l) (by simp [ho, Op.operands])]
      have h2 : hi.map (ev s2) = hi.map (ev s) := by
        cases hi with
        | none => rfl
        | some l => simp only [Option.map_some, he (x := l) (by simp [ho, Op.operands])]
      simp only [he (x := x) (by simp [ho, Op.operands]), h1, h2, vSlice_agree (hh (x := x) (by simp [ho, Op.operands]))]
  | nilCheck x =>
    have h1 := hh (x := x) (by simp [ho, Op.operands])
    simp only [he (x := x) (by simp [ho, Op.operands])]
    generalize ev s x = v at h1
    cases v <;> first | rfl | (have := h1 _ (List.mem_singleton.2 rfl); simp only [this])
  | makeFunc fn fi ca =>
    have h1 : ca.toList.map (ev s2) = ca.toList.map (ev s) := List.map_congr_left fun x hx => he (by
      simp only [ho, Op.operands, Array.toList_append]
      exact List.mem_append_right _ hx)
    cases fn <;> first | rfl | simp only [h1]
  | call c =>
    simp only
    cases hc : c.callee with
    | builtin b =>
      simp only
      have h0 : ∀ x ∈ c.args.toList, x ∈ o.op.operands.toList := fun x hx => by
        simp only [ho, Op.operands, Call.operands, Array.toList_append]
        exact List.mem_append_right _ hx
      have h1 : c.args.toList.map (ev s2) = c.args.toList.map (ev s) := List.map_congr_left fun x hx => he (h0 x hx)
      rw [h1]
      cases b <;> try rfl
      simp only [vBuiltin]
      split
      · rename_i x t hx ht
        obtain ⟨y, hy, rfl⟩ := map_one hx
        exact vLen_agree (hh (h0 y (by rw [hy]; exact List.mem_singleton.2 rfl)))
      · rfl
    | _ => rfl
  | _ => rfl

/-! ### Quiet operations -/

theorem ov_nil (n : Nat) (δ H : Heap) : ov n n δ H = H := by
  funext T
  have : ¬ (n ≤ T ∧ T < n) := by omega
  simp only [ov, if_neg this]
theorem ov_one (n : Nat) (e : Ent) (H : Heap) : updH n e H = ov n (n + 1) (fun _ => e) H := by
  funext T
  by_cases h : T = n
  · subst h
    have : T ≤ T ∧ T < T + 1 := by omega
    simp only [updH_same, ov, if_pos this]
  · have : ¬ (n ≤ T ∧ T < n + 1) := by omega
    simp only [updH_ne _ _ h, ov, if_neg this]
theorem ov_ov {n m k : Nat} (h1 : n ≤ m) (h2 : m ≤ k) (δ ε H : Heap) : ov m k ε (ov n m δ H) = ov n k (fun T => if T < m then δ T else ε T) H := by
  funext T
  simp only [ov]
  by_cases c1 : m ≤ T ∧ T < k
  · rw [if_pos c1, if_pos (by omega), if_neg (by omega)]
  · rw [if_neg c1]
    by_cases c2 : n ≤ T ∧ T < m
    · rw [if_pos c2, if_pos (by omega), if_pos c2.2]
    · rw [if_neg c2, if_neg (by omega)]

theorem toCells_loc : ∀ {vs : List VV} {n : Nat} {H : Heap} {ps : List PT} {m : Nat} {H' : Heap}, toCells vs n H = some (ps, m, H') → n ≤ m ∧ ∃ δ, ∀ H2, toCells vs n H2 = some (ps, m, ov n m δ H2)
  | [], n, H, ps, m, H', h => by
    simp only [toCells, Option.some.injEq, Prod.mk.injEq] at h
    obtain ⟨rfl, rfl, rfl⟩ := h
    exact ⟨Nat.le_refl _, fun _ => .dead, fun H2 => by simp only [toCells, ov_nil]⟩
  | v :: vs, n, H, ps, m, H', h => by
    by_cases hv : ∃ e, v = .nl e
    · obtain ⟨e, rfl⟩ := hv
      simp only [toCells] at h ⊢
      cases hr : toCells vs (n + 1) (updH n (.root e []) H) with
      | none => rw [hr] at h; cases h
      | some z =>
        obtain ⟨ps', m', H1⟩ := z
        rw [hr] at h
        simp only [Option.some.injEq, Prod.mk.injEq] at h
        obtain ⟨rfl, rfl, rfl⟩ := h
        obtain ⟨h1, δ, h2⟩ := toCells_loc hr
        refine ⟨by omega, fun T => if T < n + 1 then .root e [] else δ T, fun H2 => ?_⟩
        rw [h2, ov_one, ov_ov (by omega) h1]
    · have ht : ∀ H, toCells (v :: vs) n H = (match v.cell, toCells vs n H with | some c, some (ps, m, H') => some (c :: ps, m, H') | _, _ => none) := fun H => by
        cases v <;> first | rfl | exact absurd ⟨_, rfl⟩ hv
      rw [ht] at h
      cases hcv : v.cell with
      | none => rw [hcv] at h; cases h
      | some c0 =>
        cases hr : toCells vs n H with
        | none => rw [hcv, hr] at h; cases h
        | some z =>
          obtain ⟨ps', m', H1⟩ := z
          rw [hcv, hr] at h
          simp only [Option.some.injEq, Prod.mk.injEq] at h
          obtain ⟨rfl, rfl, rfl⟩ := h
          obtain ⟨h1, δ, h2⟩ := toCells_loc hr
          exact ⟨h1, δ, fun H2 => by rw [ht, hcv, h2]⟩

theorem eff_putd {d : Option Nat} {x : VV} {δ : Heap} {n' : Nat} (h : ({ s with H := ov s.nx n' δ s.H, nx := n' } : St).putd d x = some s') :
    s' = eff d x δ n' s ∧ ∀ s2 : St, s2.N = s.N → ({ s2 with H := ov s2.nx n' δ s2.H, nx := n' } : St).putd d x = some (eff d x δ n' s2) := by
  obtain ⟨h1, h2⟩ := putd_putf h
  exact ⟨h1, fun s2 hN => h2 { s2 with H := ov s2.nx n' δ s2.H, nx := n' } hN⟩

theorem room_le {k : Nat} (h : s.room k = true) : ∀ m, s.lim = some m → s.nx + k ≤ m := by
  intro m hm
  simpa [St.room, hm] using h

theorem vexec_loc (hq : quietOp o = true) (h : vexec ty s o = some s') : ∃ v δ n', s.nx ≤ n' ∧ (∀ m, s.lim = some m → s.nx ≤ m → n' ≤ m) ∧ s' = eff o.dst v δ n' s ∧ ∀ s2, Agree ops o s s2 → vexec ty s2 o = some (eff o.dst v δ n' s2) := by
  have hroom : ∀ s2 k, Agree ops o s s2 → s2.room k = s.room k := fun s2 k ha => by simp only [St.room, ha.lim, ha.nx]
  have hbox : ∀ vs, xBox s vs o.dst = some s' → ∃ v δ n', s.nx ≤ n' ∧ (∀ m, s.lim = some m → s.nx ≤ m → n' ≤ m) ∧ s' = eff o.dst v δ n' s ∧ ∀ s2, Agree ops o s s2 → xBox s2 vs o.dst = some (eff o.dst v δ n' s2) := by
    intro vs hx
    unfold xBox at hx
    split at hx
    · cases hx
    · rename_i hc
      rw [ov_one] at hx
      obtain ⟨h1, h2⟩ := eff_putd hx
      have hr : s.room 1 = true := by
        cases hq : s.room 1 with
        | true => rfl
        | false => exact absurd (.inr hq) hc
      refine ⟨_, _, _, Nat.le_succ _, fun m hm _ => room_le hr m hm, h1, fun s2 ha => ?_⟩
      unfold xBox
      rw [if_neg (by rw [hroom s2 1 ha]; exact hc), ov_one]
      have := h2 s2 ha.N
      rw [ha.nx] at this ⊢
      exact this
  have hval : (vval ty s o).bind (s.putd o.dst) = some s' → ∃ v δ n', s.nx ≤ n' ∧ (∀ m, s.lim = some m → s.nx ≤ m → n' ≤ m) ∧ s' = eff o.dst v δ n' s ∧ ∀ s2, Agree ops o s s2 → (vval ty s2 o).bind (s2.putd o.dst) = some (eff o.dst v δ n' s2) := by
    intro hx
    cases hv : vval ty s o with
    | none => rw [hv] at hx; cases hx
    | some x =>
      rw [hv] at hx
      have hx : s.putd o.dst x = some s' := hx
      obtain ⟨h1, h2⟩ := putd_putf hx
      refine ⟨x, fun _ => .dead, s.nx, Nat.le_refl _, fun m _ hm => hm, ?_, fun s2 ha => ?_⟩
      · rw [h1]
        simp only [eff, ov_nil]
      · rw [vval_agree ha.tm ha.H, hv]
        show s2.putd o.dst x = _
        rw [h2 s2 ha.N]
        simp only [eff, ← ha.nx, ov_nil]
  unfold vexec at h ⊢
  cases ho : o.op with
  | alloc t =>
    simp only [ho] at h ⊢
    split at h
    · rename_i d hd; exact hbox _ h
    · cases h
  | box t x =>
    simp only [ho] at h ⊢
    split at h
    · rename_i vs hvs
      obtain ⟨v, δ, n', h1, h2, h3, h4⟩ := hbox _ h
      refine ⟨v, δ, n', h1, h2, h3, fun s2 ha => ?_⟩
      rw [ev_agree ha.tm (x := x) (by simp [ho, Op.operands]), hvs]
      exact h4 s2 ha
    · cases h
  | store t x y => simp [quietOp, ho] at hq
  | build t parts =>
    simp only [ho] at h ⊢
    have hev : ∀ s2, Agree ops o s s2 → evParts ty s2 t parts = evParts ty s t parts := fun s2 ha => evParts_agree ha.tm (by
      intro p hp
      simp only [ho, Op.operands, List.mem_map]
      exact ⟨p, hp, rfl⟩)
    cases hv : vBuild ty t (evParts ty s t parts) with
    | none => rw [hv] at h; cases h
    | some x =>
      rw [hv] at h
      have hx : s.putd o.dst x = some s' := h
      obtain ⟨h1, h2⟩ := putd_putf hx
      refine ⟨x, fun _ => .dead, s.nx, Nat.le_refl _, fun m _ hm => hm, ?_, fun s2 ha => ?_⟩
      · rw [h1]
        simp only [eff, ov_nil]
      · rw [hev s2 ha, hv]
        show s2.putd o.dst x = _
        rw [h2 s2 ha.N]
        simp only [eff, ← ha.nx, ov_nil]
  | buildSlice t len parts =>
    simp only [ho] at h ⊢
    have hev : ∀ s2, Agree ops o s s2 → evParts ty s2 t parts = evParts ty s t parts := fun s2 ha => evParts_agree ha.tm (by
      intro p hp
      simp only [ho, Op.operands, List.mem_map]
      exact ⟨p, hp, rfl⟩)
    unfold xBuildSlice at h
    split at h
    · rename_i e _ _ _ ht
      split at h
      · rename_i d hde
        split at h
        · cases h
        · rename_i hc
          split at h
          · rename_i flat hfl
            split at h
            · rename_i ps n H2 htc
              split at h
              · rename_i hr
                obtain ⟨hle, δ, hδ⟩ := toCells_loc htc
                have hH2 : H2 = ov s.nx n δ s.H := by
                  have := hδ s.H
                  rw [htc] at this
                  simp only [Option.some.injEq, Prod.mk.injEq, true_and] at this
                  exact this
                rw [hH2, ov_one, ov_ov hle (Nat.le_succ _)] at h
                obtain ⟨h1, h2⟩ := eff_putd h
                refine ⟨_, _, _, by omega, fun m hm _ => ?_, h1, fun s2 ha => ?_⟩
                · have := room_le hr m hm
                  omega
                · unfold xBuildSlice
                  simp only [ht, hde, if_neg hc, hev s2 ha, hfl, ha.nx, hδ s2.H, hroom s2 _ ha, hr, if_true]
                  rw [ov_one, ov_ov hle (Nat.le_succ _)]
                  have := h2 s2 ha.N
                  rw [ha.nx] at this
                  exact this
              · cases h
            · cases h
          · cases h
      · cases h
    · cases h
  | makeSlice t l c =>
    simp only [ho] at h ⊢
    have hl : ∀ s2, Agree ops o s s2 → ev s2 l = ev s l := fun s2 ha => ev_agree ha.tm (by simp [ho, Op.operands])
    have hc' : ∀ s2, Agree ops o s s2 → ev s2 c = ev s c := fun s2 ha => ev_agree ha.tm (by simp [ho, Op.operands])
    unfold xMake at h
    split at h
    · rename_i e _ _ _ k n k' m ht hln hcm
      split at h
      · rename_i d hde
        split at h
        · rename_i hc
          rw [ov_one] at h
          obtain ⟨h1, h2⟩ := eff_putd h
          refine ⟨_, _, _, Nat.le_succ _, fun m hm _ => room_le hc.2.2.2.2.2.2 m hm, h1, fun s2 ha => ?_⟩
          unfold xMake
          rw [hl s2 ha, hc' s2 ha, ht, hln, hcm]
          simp only [hde]
          rw [if_pos (by rw [hroom s2 _ ha]; exact hc), ov_one]
          have := h2 s2 ha.N
          rw [ha.nx] at this ⊢
          exact this
        · cases h
      · cases h
    · cases h
  | call c =>
    simp only [ho] at h ⊢
    cases hcal : c.callee with
    | builtin b =>
      rw [hcal] at h
      have hb : b ≠ .append := fun hh => by rw [hh] at hcal; simp [quietOp, ho, hcal] at hq
      cases b <;> first | exact absurd rfl hb | exact hval h
    | value v => rw [hcal] at h; exact hval h
    | invoke r m => rw [hcal] at h; exact hval h
  | _ =>
    simp only [ho] at h ⊢
    exact hval h
end
end Go.Proofs.Ytclljpdcpcolpaa
