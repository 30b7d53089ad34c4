/- The value-level engine, ninth part: a store into a variable, and into a slice of the call's own. -/
import Derived.Test.YtclljpdcpcolpaaEngH
namespace Go.Proofs.Ytclljpdcpcolpaa
open Go Go.RowKit
set_option linter.unusedVariables false
set_option linter.unusedSimpArgs false

/-- A list with vs written over it from j on. -/
def spl {α : Type} (l : List α) (j : Nat) (vs : List α) : List α := l.take j ++ vs ++ l.drop (j + vs.length)

theorem spl_length {α : Type} {l vs : List α} {j : Nat} (h : j + vs.length ≤ l.length) : (spl l j vs).length = l.length := by
  simp [spl]; omega
theorem spl_get {α : Type} {l vs : List α} {j : Nat} (h : j + vs.length ≤ l.length) (k : Nat) :
    (spl l j vs)[k]? = if k < j then l[k]? else if k < j + vs.length then vs[k - j]? else l[k]? := by
  simp only [spl, List.getElem?_append, List.length_append, List.length_take, List.getElem?_take, List.getElem?_drop]
  have h1 : min j l.length = j := by omega
  rw [h1]
  by_cases c1 : k < j
  · simp [c1, show k < j + vs.length by omega]
  · by_cases c2 : k < j + vs.length
    · simp [c1, c2]
    · simp only [c1, c2, if_false]
      congr 1
      omega

section
variable {P : Program} {E : Env} {g : Gh} {H : Heap} {w : World}

/-- Cells written into one block, all of them the call's own. -/
theorem frm_set (h : Frm E w) {b : Nat} {cur : Array Value} {e : TypeId} (hw : w.heap[b]? = some (.cells cur e (0, 0))) {o : Nat} {us : List Value} (hl : o + us.length ≤ cur.size)
    (hown : E.w0.heap.size ≤ b ∨ ∀ k, o ≤ k → k < o + us.length → E.own b k) : Frm E (w.setRow b (spl cur.toList o us).toArray) := by
  refine h.step rfl rfl rfl (by simp) fun b' hb' => ?_
  by_cases hne : b' = b
  · subst hne
    refine .inr ⟨cur, e, (spl cur.toList o us).toArray, hw, setRow_heap w b' cur _ e (0, 0) hw, by simp [spl_length (l := cur.toList) (j := o) (vs := us) (by simpa using hl)], fun k hk => ?_⟩
    have := spl_get (l := cur.toList) (j := o) (vs := us) (by simpa using hl) k
    simp only [List.getElem?_toArray, this, Array.getElem?_toList]
    split
    · rfl
    · rename_i c1
      split
      · rename_i c2
        rcases hown with h1 | h1
        · omega
        · exact absurd (h1 k (by omega) c2) hk
      · rfl
  · exact .inl (setRow_other w b b' _ hne)

theorem crel_one {H : Heap} {x : VV} {v : Value} (hx : CRel P E H g x v) (hn : x ≠ .any) : v.oneCell' = true := by
  cases x <;> try (first | exact hx.elim | (rw [hx]; rfl) | exact absurd rfl hn)
  case fr e rows =>
    obtain ⟨fh, hfh, hn⟩ := hx
    obtain ⟨A, cap, hv, _⟩ := hn [] e rows rfl
    rw [hfh] at hv
    rw [hv]; rfl
  case rf T n => exact hx.2.1
  case bp T n => exact hx.2.1
  case np T i j => exact hx.2.1
  case bs T j n e => exact hx.2.1
  case fp row => obtain ⟨b, o, rfl, _⟩ := hx; rfl
  case err b =>
    cases b with
    | true => obtain ⟨t, x, rfl⟩ := hx; rfl
    | false => obtain rfl : v = _ := hx; rfl
  case clo f caps =>
    obtain ⟨cs, rfl, _⟩ := hx
    rfl

theorem hle_same {e : Ent} {T : Nat} (hl : (H T).live = true) (hr : ∀ t rows, e = .root t rows → ∃ rows', H T = .root t rows') : HLe g H g (updH T e H) := by
  refine ⟨fun _ h => h, fun X e' rows hX h => ?_, fun X hX h => ?_, fun X hX _ => rfl, fun X hX _ => rfl⟩
  · by_cases hx : X = T
    · subst hx; rw [updH_same] at h; exact hr e' rows h
    · rw [updH_ne _ _ hx] at h; exact ⟨rows, h⟩
  · by_cases hx : X = T
    · subst hx; exact hl
    · rwa [updH_ne _ _ hx] at h

theorem seen_same (h : HRel P E g H w) {T : Nat} {e : Ent} (hT : (H T).live = true) : ∀ X, (updH T e H X).live = true → g.sn X = true := by
  intro X hX
  by_cases c : X = T
  · subst c; exact h.seen X hT
  · rw [updH_ne _ _ c] at hX; exact h.seen X hX

/-- A store into a variable. -/
theorem hrel_store_box (h : HRel P E g H w) {T : Nat} {cs : List VV} (hT : H T = .box cs) {j : Nat} {vs : List VV} (hj : j + vs.length ≤ cs.length) (h0 : 0 < vs.length) {us : List Value} (hl : us.length = vs.length)
    (hc : ∀ (k : Nat) (c : VV) (u : Value), vs[k]? = some c → us[k]? = some u → CRel P E H g c u) :
    ∃ cur e, w.heap[(g.bx T).1]? = some (.cells cur e (0, 0)) ∧ (g.bx T).2 + j + us.length ≤ cur.size ∧
      HRel P E g (updH T (.box (spl cs j vs)) H) (w.setRow (g.bx T).1 (spl cur.toList ((g.bx T).2 + j) us).toArray) := by
  have hbox := h.box T cs hT
  obtain ⟨cur, e, hw, hown, hcell⟩ := hbox
  have hsz : (g.bx T).2 + j + us.length ≤ cur.size := by
    obtain ⟨_, _, u, hu, _⟩ := hcell (j + us.length - 1) cs[j + us.length - 1] (List.getElem?_eq_getElem (by omega))
    have := (Array.getElem?_eq_some_iff.1 hu).1
    omega
  have hsz' : (g.bx T).2 + j + us.length ≤ cur.toList.length := by simpa using hsz
  have hsp := spl_get hsz'
  have hle : HLe g H g (updH T (.box (spl cs j vs)) H) := hle_same (by simp [hT, Ent.live]) (fun t rows h => by cases h)
  -- a cell that is this variable's
  have hmine : ∀ k, (g.bx T).2 + j ≤ k → k < (g.bx T).2 + j + us.length → g.ob (g.bx T).1 k = some (T, k - (g.bx T).2) ∧ (E.w0.heap.size ≤ (g.bx T).1 ∨ E.own (g.bx T).1 k) := by
    intro k hk1 hk2
    obtain ⟨h1, h2, _⟩ := hcell (k - (g.bx T).2) cs[k - (g.bx T).2] (List.getElem?_eq_getElem (by omega))
    rw [show (g.bx T).2 + (k - (g.bx T).2) = k by omega] at h1 h2
    exact ⟨h1, h2⟩
  refine ⟨cur, e, hw, hsz, ?_, fun X e' rows hX p e2 rows2 hp => ?_, fun X cs' hX => ?_, seen_same h (by simp [hT, Ent.live])⟩
  · refine frm_set h.frm hw hsz ?_
    rcases Nat.lt_or_ge (g.bx T).1 E.w0.heap.size with hlt | hge
    · right
      intro k hk1 hk2
      rcases (hmine k hk1 hk2).2 with h1 | h1
      · omega
      · exact h1
    · exact .inl hge
  · have hne : X ≠ T := by rintro rfl; rw [updH_same] at hX; cases hX
    rw [updH_ne _ _ hne] at hX
    refine node_mono hle (h.node X e' rows hX p e2 rows2 hp) (fun _ => rfl) (fun _ _ hb => hb) (fun b _ hb => setRow_other w _ b _ ?_)
    rintro rfl
    rw [hown] at hb
    cases hb
  · by_cases hne : X = T
    · subst hne
      rw [updH_same] at hX
      injection hX with hX
      subst hX
      refine ⟨_, e, setRow_heap w _ cur _ e (0, 0) hw, hown, fun k c hk => ?_⟩
      have hsc := spl_get (l := cs) (j := j) (vs := vs) hj k
      rw [hsc] at hk
      simp only [List.getElem?_toArray, hsp]
      by_cases c1 : k < j
      · rw [if_pos c1] at hk
        obtain ⟨h1, h2, u, h3, h4⟩ := hcell k c hk
        refine ⟨h1, h2, u, ?_, crel_mono hle h4⟩
        rw [if_pos (by omega), Array.getElem?_toList]
        exact h3
      · rw [if_neg c1] at hk
        by_cases c2 : k < j + vs.length
        · rw [if_pos c2] at hk
          obtain ⟨h1, h2⟩ := hmine ((g.bx X).2 + k) (by omega) (by omega)
          rw [show (g.bx X).2 + k - (g.bx X).2 = k by omega] at h1
          have hlt : k - j < us.length := by omega
          refine ⟨h1, h2, us[k - j], ?_, crel_mono hle (hc (k - j) c _ hk (List.getElem?_eq_getElem hlt))⟩
          rw [if_neg (by omega), if_pos (by omega), show (g.bx X).2 + k - ((g.bx X).2 + j) = k - j by omega]
          exact List.getElem?_eq_getElem hlt
        · rw [if_neg c2] at hk
          obtain ⟨h1, h2, u, h3, h4⟩ := hcell k c hk
          refine ⟨h1, h2, u, ?_, crel_mono hle h4⟩
          rw [if_neg (by omega), if_neg (by omega), Array.getElem?_toList]
          exact h3
    · rw [updH_ne _ _ hne] at hX
      refine box_mono hle (h.box X cs' hX) rfl (fun hh => hh) (fun _ _ hh => hh) (fun cur1 e1 he1 => ?_)
      by_cases hb : (g.bx X).1 = (g.bx T).1
      · rw [hb] at he1 ⊢
        rw [hw] at he1
        injection he1 with he1
        injection he1 with e1 e2
        subst e1; subst e2
        refine ⟨_, setRow_heap w _ cur _ e (0, 0) hw, fun o k hk => ?_⟩
        simp only [List.getElem?_toArray, hsp, Array.getElem?_toList]
        split
        · rfl
        · split
          · rename_i c1 c2
            obtain ⟨h1, _⟩ := hmine o (by omega) c2
            rw [hk] at h1
            injection h1 with h1
            injection h1 with h1
            exact absurd h1 hne
          · rfl
      · exact ⟨cur1, by rw [setRow_other w _ _ _ hb]; exact he1, fun _ _ _ => rfl⟩

/-! ### A store into a row of the call's own: numbers, bools, strings, and what other tokens stand for -/
def VV.cell : VV → Option PT
  | .int k n => some (.int k n)
  | .bool b => some (.bool b)
  | .str s => some (.str s)
  | .rf T n => some (.ref T n)
  | _ => none

theorem cell_ocell {x : VV} {c : PT} (hx : x.cell = some c) {u hh : Value} (hc : CRel P E H g x u) : ocell H g c hh u := by
  cases x <;> simp [VV.cell] at hx <;> subst hx <;> exact hc
theorem cell_plain {x : VV} {c : PT} (hx : x.cell = some c) : ∀ e rows, c ≠ PT.list e rows := by
  cases x <;> simp [VV.cell] at hx <;> subst hx <;> intro e rows h <;> cases h

/-- Below a row that was written over by plain cells, nothing is new. -/
theorem At_set {e : TypeId} {rows : List (List PT)} {i j : Nat} {r ps : List PT} (hr : rows[i]? = some r) (hj : j + ps.length ≤ r.length) (hps : ∀ (k : Nat) (c : PT), ps[k]? = some c → ∀ e rows, c ≠ PT.list e rows)
    {p : Path} {x : Nat × Nat} {z : TypeId × List (List PT)} (h : At (x :: p) (.list e (rows.set i (spl r j ps))) = some z) :
    At (x :: p) (.list e rows) = some z ∧ ¬ (x.1 = i ∧ j ≤ x.2 ∧ x.2 < j + ps.length) := by
  obtain ⟨a, b⟩ := x
  simp only [At] at h ⊢
  by_cases ha : a = i
  · subst ha
    have hlt : a < rows.length := (List.getElem?_eq_some_iff.1 hr).1
    rw [List.getElem?_set_self hlt] at h
    simp only [Option.getD_some, spl_get hj] at h
    rw [hr]
    simp only [Option.getD_some]
    by_cases c1 : b < j
    · rw [if_pos c1] at h; exact ⟨h, by omega⟩
    · rw [if_neg c1] at h
      by_cases c2 : b < j + ps.length
      · rw [if_pos c2] at h
        cases hk : ps[b - j]? with
        | none => rw [hk] at h; cases h
        | some c =>
          rw [hk] at h
          have := hps _ c hk
          cases c with
          | list e2 rows2 => exact absurd rfl (this _ _)
          | _ => cases p <;> simp [At] at h
      · rw [if_neg c2] at h; exact ⟨h, by omega⟩
  · rw [List.getElem?_set_ne (Ne.symm ha)] at h
    exact ⟨h, fun hh => ha hh.1⟩

theorem hrel_store_root (h : HRel P E g H w) {T : Nat} {e : TypeId} {rows : List (List PT)} (hT : H T = .root e rows) {i j : Nat} {r : List PT} (hr : rows[i]? = some r) {ps : List PT} (hj : j + ps.length ≤ r.length) (h0 : 0 < ps.length)
    (hps : ∀ (k : Nat) (c : PT), ps[k]? = some c → ∀ e rows, c ≠ PT.list e rows) {us : List Value} (hl : us.length = ps.length) (hc : ∀ (k : Nat) (c : PT) (u hh : Value), ps[k]? = some c → us[k]? = some u → ocell H g c hh u) :
    ∃ b n cap cur, g.hd T [] = .slice (some ⟨b, 0, none⟩) n cap ∧ w.heap[b]? = some (.cells cur e (0, 0)) ∧ i * P.cellsOf e + j + us.length ≤ cur.size ∧
      HRel P E g (updH T (.root e (rows.set i (spl r j ps))) H) (w.setRow b (spl cur.toList (i * P.cellsOf e + j) us).toArray) := by
  have hlt : i < rows.length := (List.getElem?_eq_some_iff.1 hr).1
  rcases h.node T e rows hT [] e rows rfl with ⟨_, hn⟩ | ⟨b, cap, cur, h1, h2, h3, h4, h5, h6, h7, h8⟩
  · subst hn; simp at hlt
  obtain ⟨hrl, hcell⟩ := h8 i r hr
  have hsz : i * P.cellsOf e + j + us.length ≤ cur.size := by
    have : (i + 1) * P.cellsOf e ≤ cap * P.cellsOf e := Nat.mul_le_mul_right _ (by omega)
    rw [Nat.add_mul] at this
    omega
  have hsz' : i * P.cellsOf e + j + us.length ≤ cur.toList.length := by simpa using hsz
  have hsp := spl_get hsz'
  have hle : HLe g H g (updH T (.root e (rows.set i (spl r j ps))) H) := hle_same (by simp [hT, Ent.live]) (fun t rows' hh => by injection hh with e1 e2; subst e1; exact ⟨rows, hT⟩)
  refine ⟨b, _, cap, cur, h1, h4, hsz, ?_, fun X e' rows' hX p e2 rows2 hp => ?_, fun X cs' hX => ?_, seen_same h (by simp [hT, Ent.live])⟩
  · refine frm_set h.frm h4 hsz ?_
    rcases h3 with h3 | h3
    · exact .inl h3
    · exact .inr fun k _ _ => h3 k
  · by_cases hne : X = T
    · subst hne
      rw [updH_same] at hX
      injection hX with e1 e3
      subst e1
      subst e3
      cases p with
      | nil =>
        simp only [At, Option.some.injEq, Prod.mk.injEq] at hp
        obtain ⟨rfl, rfl⟩ := hp
        refine .inr ⟨b, cap, _, by simpa using h1, h2, h3, setRow_heap w b cur _ e (0, 0) h4, by simpa using h5, h6, by simp [spl_length hsz', h7], fun a ra hra => ?_⟩
        have hk : ∀ (k : Nat), (spl cur.toList (i * P.cellsOf e + j) us).toArray[k]? = if k < i * P.cellsOf e + j then cur[k]? else if k < i * P.cellsOf e + j + us.length then us[k - (i * P.cellsOf e + j)]? else cur[k]? := by
          intro k
          simp only [List.getElem?_toArray, hsp, Array.getElem?_toList]
        by_cases ha : a = i
        · subst ha
          rw [List.getElem?_set_self hlt] at hra
          injection hra with hra
          subst hra
          refine ⟨by rw [spl_length hj]; exact hrl, fun k c hc' => ?_⟩
          rw [spl_get hj] at hc'
          rw [hk]
          by_cases c1 : k < j
          · rw [if_pos c1] at hc'
            obtain ⟨u, hu1, hu2⟩ := hcell k c hc'
            exact ⟨u, by rw [if_pos (by omega)]; exact hu1, ocell_mono hle hu2⟩
          · rw [if_neg c1] at hc'
            by_cases c2 : k < j + ps.length
            · rw [if_pos c2] at hc'
              have hlt' : k - j < us.length := by omega
              refine ⟨us[k - j], ?_, ocell_mono hle (hc (k - j) c _ _ hc' (List.getElem?_eq_getElem hlt'))⟩
              rw [if_neg (by omega), if_pos (by omega), show a * P.cellsOf e + k - (a * P.cellsOf e + j) = k - j by omega]
              exact List.getElem?_eq_getElem hlt'
            · rw [if_neg c2] at hc'
              obtain ⟨u, hu1, hu2⟩ := hcell k c hc'
              exact ⟨u, by rw [if_neg (by omega), if_neg (by omega)]; exact hu1, ocell_mono hle hu2⟩
        · rw [List.getElem?_set_ne (Ne.symm ha)] at hra
          obtain ⟨g1, g2⟩ := h8 a ra hra
          refine ⟨g1, fun k c hc' => ?_⟩
          obtain ⟨u, hu1, hu2⟩ := g2 k c hc'
          refine ⟨u, ?_, ocell_mono hle hu2⟩
          have hkl : k < P.cellsOf e := by
            rcases Nat.lt_or_ge k ra.length with h' | h'
            · omega
            · rw [List.getElem?_eq_none h'] at hc'; cases hc'
          rw [hk]
          rcases Nat.lt_or_gt_of_ne ha with hlt2 | hgt2
          · have : (a + 1) * P.cellsOf e ≤ i * P.cellsOf e := Nat.mul_le_mul_right _ hlt2
            rw [Nat.add_mul] at this
            rw [if_pos (by omega)]
            exact hu1
          · have : (i + 1) * P.cellsOf e ≤ a * P.cellsOf e := Nat.mul_le_mul_right _ hgt2
            rw [Nat.add_mul] at this
            rw [if_neg (by omega), if_neg (by omega)]
            exact hu1
      | cons x p =>
        obtain ⟨hp', _⟩ := At_set hr hj hps hp
        refine node_mono hle (h.node X e rows hT (x :: p) e2 rows2 hp') (fun _ => rfl) (fun _ _ hb => hb) (fun b' _ hb => setRow_other w _ b' _ ?_)
        rintro rfl
        rw [h2] at hb
        injection hb with hb
        injection hb with _ hb
        cases hb
    · rw [updH_ne _ _ hne] at hX
      refine node_mono hle (h.node X e' rows' hX p e2 rows2 hp) (fun _ => rfl) (fun _ _ hb => hb) (fun b' _ hb => setRow_other w _ b' _ ?_)
      rintro rfl
      rw [h2] at hb
      injection hb with hb
      injection hb with hb _
      exact hne hb.symm
  · have hne : X ≠ T := by rintro rfl; rw [updH_same] at hX; cases hX
    rw [updH_ne _ _ hne] at hX
    have hb := h.box X cs' hX
    have hbo : g.own (g.bx X).1 = none := by obtain ⟨_, _, _, h9, _⟩ := hb; exact h9
    refine box_mono hle hb rfl (fun hh => hh) (fun _ _ hh => hh) (fun cur1 e1 he1 => ⟨cur1, ?_, fun _ _ _ => rfl⟩)
    rw [setRow_other w _ _ _ (by rintro hh; rw [hh, h2] at hbo; cases hbo)]
    exact he1
end
end Go.Proofs.Ytclljpdcpcolpaa
