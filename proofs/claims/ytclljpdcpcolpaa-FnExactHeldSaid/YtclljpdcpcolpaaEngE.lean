/- The value-level engine, fifth part: the other operations that only compute. -/
import Derived.Test.YtclljpdcpcolpaaEngD
namespace Go.Proofs.Ytclljpdcpcolpaa
open Go Go.RowKit

section
variable {P : Program} {E : Env} {g : Gh} {s : St} {a : Act} {w : World} {ty : Ty}

set_option linter.unusedVariables false
set_option linter.unusedSimpArgs false
theorem fieldOf_spec (hT : TyOK P ty) {t : TypeId} {f off : Nat} {ft : TypeId} (h : fieldOf ty t f = some (off, ft)) :
    ∃ F fl, P.underlying t = some (.struct F) ∧ F[f]? = some fl ∧ fl.offset = off ∧ fl.type = ft := by
  unfold fieldOf at h
  split at h
  · rename_i fs _ _ _ ht
    obtain ⟨F, hF, hm⟩ := (hT t _ ht).desc
    rw [← hm] at h
    simp only [List.getElem?_map, Array.getElem?_toList] at h
    cases hf : F[f]? with
    | none => rw [hf] at h; cases h
    | some fl =>
      rw [hf] at h
      have h' := Option.some.inj h
      exact ⟨F, fl, hF, hf, congrArg Prod.fst h', congrArg Prod.snd h'⟩
  · cases h

theorem sizeT_spec (hT : TyOK P ty) {t : TypeId} (h : sizeT ty t ≠ 0) : ∃ d, ty t = some d ∧ d.size = sizeT ty t := by
  unfold sizeT at h ⊢
  cases ht : ty t with
  | none => simp [ht] at h
  | some d => exact ⟨d, rfl, by simp⟩

theorem run_fieldAt (hT : TyOK P ty) {t : TypeId} {f off : Nat} {ft : TypeId} (h : fieldOf ty t f = some (off, ft)) (hs : sizeT ty ft ≠ 0) (b o : Nat) :
    (Instr.fieldAt t (.pointer (some ⟨b, o, none⟩)) f).run P w = .ok (.pointer (some ⟨b, o + off, none⟩)) w := by
  obtain ⟨F, fl, hF, hf, rfl, rfl⟩ := fieldOf_spec hT h
  obtain ⟨d, hd, hsz⟩ := sizeT_spec hT hs
  have h1 := (hT _ d hd).run_size w
  simp [Instr.fieldAt, run_underlying hF, hf, Instr.sureAddr, fieldPlace, h1, hsz, hs, add_off]

theorem isStr_spec (hT : TyOK P ty) {t : TypeId} (h : isStr ty t = true) : P.underlying t = some .string := by
  unfold isStr at h
  split at h
  · rename_i ht; exact (hT t _ ht).desc
  · cases h
theorem isSl_spec (hT : TyOK P ty) {t : TypeId} (h : isSl ty t = true) : ∃ e, P.underlying t = some (.slice e) := by
  unfold isSl at h
  split at h
  · rename_i ht; exact ⟨_, (hT t _ ht).desc⟩
  · cases h

theorem isRoot_spec {e : Ent} (h : e.isRoot = true) : ∃ t rows, e = .root t rows := by
  cases e <;> simp [Ent.isRoot] at h
  exact ⟨_, _, rfl⟩

/-- A pointer of the engine's, moved on by some cells. -/
theorem bp_on {H : Heap} {T j k : Nat} {X : Value} (hl : (H T).live = true) (hx : VRel P E H g (.bp T j) X) :
    ∃ b o, X = .pointer (some ⟨b, o, none⟩) ∧ VRel P E H g (.bp T (j + k)) (.pointer (some ⟨b, o + k, none⟩)) := by
  obtain ⟨hlt, hone, hv⟩ := hx
  exact ⟨_, _, hv hl, hlt, rfl, fun _ => by rw [Nat.add_assoc]⟩
theorem np_on {H : Heap} {T i j k : Nat} {X : Value} (hl : (H T).isRoot = true) (hx : VRel P E H g (.np T i j) X) :
    ∃ b o, X = .pointer (some ⟨b, o, none⟩) ∧ VRel P E H g (.np T i (j + k)) (.pointer (some ⟨b, o + k, none⟩)) := by
  obtain ⟨hlt, hone, hv⟩ := hx
  obtain ⟨e, rows, he⟩ := isRoot_spec hl
  obtain ⟨b, n, c, h1, h2⟩ := hv e rows he
  refine ⟨_, _, h2, hlt, rfl, fun e' rows' he' => ⟨b, n, c, h1, ?_⟩⟩
  rw [he] at he'
  injection he' with e1 _
  subst e1
  rw [Nat.add_assoc]
theorem fp_on {H : Heap} {row : List PT} {k : Nat} {X : Value} (hx : VRel P E H g (.fp row) X) :
    ∃ b o, X = .pointer (some ⟨b, o, none⟩) ∧ VRel P E H g (.fp (row.drop k)) (.pointer (some ⟨b, o + k, none⟩)) := by
  obtain ⟨b, o, rfl, hr⟩ := hx
  refine ⟨b, o, rfl, b, o + k, rfl, fun j c hj => ?_⟩
  rw [List.getElem?_drop] at hj
  obtain ⟨u, h1, h2⟩ := hr (k + j) c hj
  exact ⟨u, by rw [Nat.add_assoc]; exact h1, h2⟩

theorem gives_fieldAddr (hT : TyOK P ty) (h : Rel P E g s a w) {o : Oper} {t : TypeId} {x : Operand} {f : Nat} {r : VV} (ho : o.op = .fieldAddr t x f)
    (hb : vFieldAddr ty s t (ev s x) f = some r) : Gives P E g s a w o r := by
  have hx := ev_rel h x
  suffices hh : ∃ v, (Instr.fieldAt t (a.eval x) f).run P w = .ok v w ∧ VRel P E s.H g r v by
    obtain ⟨v, h1, h2⟩ := hh
    exact ⟨v, by simp [execOp, ho, h1], h2⟩
  generalize a.eval x = X at *
  generalize ev s x = vx at *
  unfold vFieldAddr at hb
  split at hb
  · rename_i off ft hf
    split at hb
    · cases hb
    · rename_i hs
      split at hb
      · have h' := Option.some.inj hb
        rw [← h']
        obtain ⟨b, o, rfl, hr⟩ := fp_on (k := off) hx
        exact ⟨_, run_fieldAt hT hf hs b o, hr⟩
      · split at hb
        · rename_i hl
          have h' := Option.some.inj hb
          rw [← h']
          obtain ⟨b, o, rfl, hr⟩ := bp_on (k := off) hl hx
          exact ⟨_, run_fieldAt hT hf hs b o, hr⟩
        · cases hb
      · split at hb
        · rename_i hl
          have h' := Option.some.inj hb
          rw [← h']
          obtain ⟨b, o, rfl, hr⟩ := np_on (k := off) hl hx
          exact ⟨_, run_fieldAt hT hf hs b o, hr⟩
        · cases hb
      · cases hb
  · cases hb

theorem part_spec (hT : TyOK P ty) {H : Heap} {ft : TypeId} {vs : List VV} {off : Nat} {r : VV} (hb : vPart ty ft vs off = some r) {cs : List Value} (hlen : cs.length = vs.length)
    (hc : ∀ (j : Nat) (c : VV) (u : Value), vs[j]? = some c → cs[j]? = some u → CRel P E H g c u) : ∃ v, (part ft cs.toArray off).run P w = .ok v w ∧ VRel P E H g r v := by
  unfold vPart at hb
  split at hb
  · rename_i d hd
    have h1 := hT ft d hd
    split at hb
    · rename_i ha
      simp only at hb
      split at hb
      · rename_i hl
        have h' := Option.some.inj hb
        rw [← h']
        refine ⟨.agg (cs.toArray.extract off (off + d.size)), ?_, (cs.drop off).take d.size, ?_, ?_, ?_⟩
        · simp [part, h1.run_agg, ha, h1.run_size]
        · simp [List.drop_take, Nat.add_comm]
        · simp only [List.length_take, List.length_drop] at hl ⊢
          omega
        · intro j c u hj hu
          rw [List.getElem?_take] at hj hu
          split at hj
          · rename_i hjl
            rw [if_pos hjl] at hu
            rw [List.getElem?_drop] at hj hu
            exact hc _ c u hj hu
          · cases hj
      · cases hb
    · rename_i ha
      have hlt : off < vs.length := by
        rcases Nat.lt_or_ge off vs.length with h | h
        · exact h
        · rw [List.getElem?_eq_none h] at hb; cases hb
      have hu : cs[off]? = some cs[off] := List.getElem?_eq_getElem (by omega)
      refine ⟨cs[off], ?_, vrel_of_crel (hc off r _ hb hu)⟩
      simp [part, h1.run_agg, ha, hu]
  · cases hb

theorem gives_field (hT : TyOK P ty) (h : Rel P E g s a w) {o : Oper} {t : TypeId} {x : Operand} {f : Nat} {r : VV} (ho : o.op = .field t x f)
    (hb : vField ty t (ev s x) f = some r) : Gives P E g s a w o r := by
  have hx := ev_rel h x
  suffices hh : ∃ v, (Instr.field t (a.eval x) f).run P w = .ok v w ∧ VRel P E s.H g r v by
    obtain ⟨v, h1, h2⟩ := hh
    exact ⟨v, by simp [execOp, ho, h1], h2⟩
  generalize a.eval x = X at *
  generalize ev s x = vx at *
  unfold vField at hb
  split at hb
  · rename_i off ft vs hf
    obtain ⟨F, fl, hF, hfl, rfl, rfl⟩ := fieldOf_spec hT hf
    obtain ⟨cs, rfl, hlen, hc⟩ := hx
    obtain ⟨v, hr, hv⟩ := part_spec (w := w) hT hb hlen hc
    exact ⟨v, by simp [Instr.field, run_underlying hF, hfl, asAgg, hr], hv⟩
  · cases hb

theorem run_indexAt_ar (hT : TyOK P ty) {t : TypeId} {len : Nat} {e : TypeId} {sz by' : Nat} {z : List VV} (ht : ty t = some ⟨.ar len e, sz, by', z⟩) (hs : sizeT ty e ≠ 0) {k : IntKind} {n : Int} (hn : 0 ≤ n ∧ n < len) (b o : Nat) :
    (Instr.indexAt t (.pointer (some ⟨b, o, none⟩)) (.int k n)).run P w = .ok (.pointer (some ⟨b, o + n.toNat * sizeT ty e, none⟩)) w := by
  have hu : P.underlying t = some (.array len e) := (hT t _ ht).desc
  obtain ⟨d, hd, hsz⟩ := sizeT_spec hT hs
  have h1 := (hT _ d hd).run_size w
  simp [Instr.indexAt, run_underlying hu, Instr.sureAddr, asIntOf, hn, h1, hsz, add_off]

theorem run_indexAt_sl (hT : TyOK P ty) {t e : TypeId} (hu : P.underlying t = some (.slice e)) (hs : sizeT ty e ≠ 0) {k : IntKind} {n : Int} {len cap : Nat} (hn : 0 ≤ n ∧ n < len) (b o : Nat) :
    (Instr.indexAt t (.slice (some ⟨b, o, none⟩) len cap) (.int k n)).run P w = .ok (.pointer (some ⟨b, o + n.toNat * P.cellsOf e, none⟩)) w := by
  obtain ⟨d, hd, hsz⟩ := sizeT_spec hT hs
  have h1 := (hT _ d hd).run_size w
  have h2 := (hT _ d hd).cells
  simp [Instr.indexAt, run_underlying hu, asIntOf, hn, h1, h2, add_off]

theorem At_cons {i j : Nat} {p : Path} {e : TypeId} {rows : List (List PT)} {r : List PT} {c : PT} (hr : rows[i]? = some r) (hc : r[j]? = some c) : At ((i, j) :: p) (.list e rows) = At p c := by
  simp [At, hr, hc]

theorem rd_of_fcell {e : TypeId} {rows : List (List PT)} {fh : Path → Value} (hnode : ∀ p e' rows', At p (.list e rows) = some (e', rows') → RdNode P E e' rows' (fun i j => fh (p ++ [(i, j)])) (fh p))
    {i j : Nat} {r : List PT} {c : PT} (hr : rows[i]? = some r) (hc : r[j]? = some c) {u : Value} (hf : fcell c (fh [(i, j)]) u) : Rd P E c u := by
  cases c with
  | list e' rows' =>
    refine ⟨fun q => fh ((i, j) :: q), hf.symm, fun p e2 rows2 hp => ?_⟩
    exact hnode ((i, j) :: p) e2 rows2 (by rw [At_cons hr hc]; exact hp)
  | _ => exact hf

theorem gives_indexAddr (hT : TyOK P ty) (h : Rel P E g s a w) {o : Oper} {t : TypeId} {x i : Operand} {r : VV} (ho : o.op = .indexAddr t x i)
    (hb : vIndexAddr ty s t (ev s x) (ev s i) = some r) : Gives P E g s a w o r := by
  have hx := ev_rel h x
  have hi := ev_rel h i
  suffices hh : ∃ v, (Instr.indexAt t (a.eval x) (a.eval i)).run P w = .ok v w ∧ VRel P E s.H g r v by
    obtain ⟨v, h1, h2⟩ := hh
    exact ⟨v, by simp [execOp, ho, h1], h2⟩
  generalize a.eval x = X at *
  generalize ev s x = vx at *
  generalize a.eval i = I at *
  generalize ev s i = vi at *
  unfold vIndexAddr at hb
  split at hb
  · rename_i e _ _ _ k n ht
    obtain rfl : I = .int k n := hi
    have hu : P.underlying t = some (.slice e) := (hT t _ ht).desc
    split at hb
    · cases hb
    · rename_i hs
      split at hb
      · rename_i e' rows
        split at hb
        · rename_i hn
          obtain ⟨hn0, hn1, rfl⟩ := hn
          have h' := Option.some.inj hb
          rw [← h']
          obtain ⟨fh, hfh, hnode⟩ := hx
          obtain ⟨A, cap, hv, _, _, hr⟩ := hnode [] e' rows rfl
          rw [hfh] at hv
          subst hv
          rcases hr with h0 | ⟨b, o, rfl, hrows⟩
          · subst h0; simp at hn1; omega
          · refine ⟨_, run_indexAt_sl hT hu hs ⟨hn0, hn1⟩ b o, b, _, rfl, fun j c hj => ?_⟩
            have hlt : n.toNat < rows.length := by omega
            rw [List.getElem?_eq_getElem hlt] at hj
            obtain ⟨_, hcell⟩ := hrows n.toNat _ (List.getElem?_eq_getElem hlt)
            obtain ⟨u, h1, h2⟩ := hcell j c hj
            exact ⟨u, by rw [Nat.add_assoc]; exact h1, rd_of_fcell hnode (List.getElem?_eq_getElem hlt) hj h2⟩
        · cases hb
      · rename_i T m
        split at hb
        · rename_i e' rows hroot
          split at hb
          · rename_i hn
            obtain ⟨hn0, hn1, hn2, rfl⟩ := hn
            have h' := Option.some.inj hb
            rw [← h']
            obtain ⟨hlt, hone, hv⟩ := hx
            have hv := hv (by simp [hroot, Ent.isRoot])
            rcases h.heap.node T e' rows hroot [] e' rows rfl with ⟨h0, hnil⟩ | ⟨b, cap, cur, hhd, _⟩
            · subst hnil; simp at hn2; omega
            · rw [hhd] at hv
              simp only [cutv] at hv
              subst hv
              refine ⟨_, run_indexAt_sl hT hu hs ⟨hn0, hn1⟩ b 0, hlt, rfl, fun e2 rows2 he2 => ⟨b, _, cap, hhd, ?_⟩⟩
              rw [hroot] at he2
              injection he2 with e1 _
              subst e1
              simp
          · cases hb
        · cases hb
      · cases hb
  · rename_i len e _ _ _ k n ht
    obtain rfl : I = .int k n := hi
    split at hb
    · rename_i hn
      obtain ⟨hn0, hn1, hs⟩ := hn
      split at hb
      · have h' := Option.some.inj hb
        rw [← h']
        obtain ⟨b, o, rfl, hr⟩ := fp_on (k := n.toNat * sizeT ty e) hx
        exact ⟨_, run_indexAt_ar hT ht hs ⟨hn0, hn1⟩ b o, hr⟩
      · split at hb
        · rename_i hl
          have h' := Option.some.inj hb
          rw [← h']
          obtain ⟨b, o, rfl, hr⟩ := bp_on (k := n.toNat * sizeT ty e) hl hx
          exact ⟨_, run_indexAt_ar hT ht hs ⟨hn0, hn1⟩ b o, hr⟩
        · cases hb
      · split at hb
        · rename_i hl
          have h' := Option.some.inj hb
          rw [← h']
          obtain ⟨b, o, rfl, hr⟩ := np_on (k := n.toNat * sizeT ty e) hl hx
          exact ⟨_, run_indexAt_ar hT ht hs ⟨hn0, hn1⟩ b o, hr⟩
        · cases hb
      · cases hb
    · cases hb
  · cases hb

theorem gives_index (hT : TyOK P ty) (h : Rel P E g s a w) {o : Oper} {t : TypeId} {x i : Operand} {r : VV} (ho : o.op = .index t x i)
    (hb : vIndex ty t (ev s x) (ev s i) = some r) : Gives P E g s a w o r := by
  have hx := ev_rel h x
  have hi := ev_rel h i
  suffices hh : ∃ v, (Instr.index t (a.eval x) (a.eval i)).run P w = .ok v w ∧ VRel P E s.H g r v by
    obtain ⟨v, h1, h2⟩ := hh
    exact ⟨v, by simp [execOp, ho, h1], h2⟩
  generalize a.eval x = X at *
  generalize ev s x = vx at *
  generalize a.eval i = I at *
  generalize ev s i = vi at *
  unfold vIndex at hb
  split at hb
  · rename_i b k n
    obtain rfl : X = .string b := hx
    obtain rfl : I = .int k n := hi
    split at hb
    · rename_i hn
      have hu := isStr_spec hT hn.2
      split at hb
      · rename_i c hc
        have h' := Option.some.inj hb
        rw [← h']
        exact ⟨.int .u8 c.toNat, by simp [Instr.index, run_underlying hu, asIntOf, hn.1, hc], rfl⟩
      · cases hb
    · cases hb
  · rename_i vs k n
    obtain rfl : I = .int k n := hi
    split at hb
    · rename_i len e _ _ _ ht
      split at hb
      · rename_i hn
        obtain ⟨cs, rfl, hlen, hc⟩ := hx
        have hu : P.underlying t = some (.array len e) := (hT t _ ht).desc
        obtain ⟨v, hr, hv⟩ := part_spec (w := w) hT hb hlen hc
        have hs : ∃ d, ty e = some d := by
          unfold vPart at hb
          split at hb
          · rename_i d hd; exact ⟨d, hd⟩
          · cases hb
        obtain ⟨d, hd⟩ := hs
        have h1 := (hT e d hd).run_size w
        have h2 : sizeT ty e = d.size := by simp [sizeT, hd]
        rw [h2] at hr
        exact ⟨v, by simp [Instr.index, run_underlying hu, asIntOf, hn, h1, hr], hv⟩
      · cases hb
    · cases hb
  · cases hb

theorem gives_extract (h : Rel P E g s a w) {o : Oper} {x : Operand} {i : Nat} {r : VV} (ho : o.op = .extract x i)
    (hb : vExtract (ev s x) i = some r) : Gives P E g s a w o r := by
  have hx := ev_rel h x
  suffices hh : ∃ v, (Instr.extract (a.eval x) i).run P w = .ok v w ∧ VRel P E s.H g r v by
    obtain ⟨v, h1, h2⟩ := hh
    exact ⟨v, by simp [execOp, ho, h1], h2⟩
  generalize a.eval x = X at *
  generalize ev s x = vx at *
  unfold vExtract at hb
  split at hb
  · obtain ⟨cs, rfl, hlen, hc⟩ := hx
    have hlt : i < cs.length := by
      rcases Nat.lt_or_ge i cs.length with h' | h'
      · exact h'
      · rw [hlen] at h'; rw [List.getElem?_eq_none h'] at hb; cases hb
    refine ⟨cs[i], ?_, vrel_of_arel (hc i r _ hb (List.getElem?_eq_getElem hlt))⟩
    simp [Instr.extract, hlt]
  · cases hb
end
end Go.Proofs.Ytclljpdcpcolpaa
