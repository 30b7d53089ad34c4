/- The value-level engine, twenty-second part: what came in reads as a tree; a law that holds on values holds as its row says. -/
import Derived.Test.YtclljpdcpcolpaaEngU
import Derived.Carry
import Derived.DataReads
import Derived.ChangeSame
namespace Go.Proofs.Ytclljpdcpcolpaa
open Go Go.RowKit
set_option linter.unusedVariables false
set_option linter.unusedSimpArgs false

/-- The elements of an array, as fields. -/
def arF (n s : Nat) (e : TypeId) : List (Nat × TypeId) := (List.range n).map fun i => (i * s, e)
mutual
/-- The cells of a value of a type, by the table. -/
def PTy (ty : Ty) : Nat → TypeId → List PT → Prop
  | 0, _, _ => False
  | f + 1, t, cells => match ty t with
    | some ⟨.it k, _, _, _⟩ => ∃ n, cells = [.int k n] ∧ k.min ≤ n ∧ n ≤ k.max
    | some ⟨.bo, _, _, _⟩ => ∃ b, cells = [.bool b]
    | some ⟨.ss, _, _, _⟩ => ∃ s, cells = [.str s] ∧ s.size ≤ maxLen
    | some ⟨.sl e, _, _, _⟩ => ∃ rows, cells = [.list e rows] ∧ rows.length ≤ maxLen ∧ ∀ r ∈ rows, PTy ty f e r
    | some ⟨.st fs, _, _, _⟩ => PTyF ty f fs cells
    | some ⟨.ar n e, _, _, _⟩ => PTyF ty f (arF n (sizeT ty e) e) cells
    | _ => False
def PTyF (ty : Ty) : Nat → List (Nat × TypeId) → List PT → Prop
  | _, [], cells => cells = []
  | f, x :: fs, cells => ∃ a b, cells = a ++ b ∧ PTy ty f x.2 a ∧ PTyF ty f fs b
end

section
variable {ty : Ty} {f : Nat} {t : TypeId} {cells : List PT} {a b : Nat} {z : List VV}
theorem PTy_it {k : IntKind} (h : ty t = some ⟨.it k, a, b, z⟩) : PTy ty (f + 1) t cells = ∃ n, cells = [.int k n] ∧ k.min ≤ n ∧ n ≤ k.max := by simp only [PTy, h]
theorem PTy_bo (h : ty t = some ⟨.bo, a, b, z⟩) : PTy ty (f + 1) t cells = ∃ b, cells = [.bool b] := by simp only [PTy, h]
theorem PTy_ss (h : ty t = some ⟨.ss, a, b, z⟩) : PTy ty (f + 1) t cells = ∃ s, cells = [.str s] ∧ s.size ≤ maxLen := by simp only [PTy, h]
theorem PTy_sl {e : TypeId} (h : ty t = some ⟨.sl e, a, b, z⟩) : PTy ty (f + 1) t cells = ∃ rows, cells = [.list e rows] ∧ rows.length ≤ maxLen ∧ ∀ r ∈ rows, PTy ty f e r := by simp only [PTy, h]
theorem PTy_st {fs : List (Nat × TypeId)} (h : ty t = some ⟨.st fs, a, b, z⟩) : PTy ty (f + 1) t cells = PTyF ty f fs cells := by simp only [PTy, h]
theorem PTy_ar {n e : Nat} (h : ty t = some ⟨.ar n e, a, b, z⟩) : PTy ty (f + 1) t cells = PTyF ty f (arF n (sizeT ty e) e) cells := by simp only [PTy, h]
theorem PTyF_nil : PTyF ty f [] cells = (cells = []) := by simp only [PTyF]
theorem PTyF_cons {x : Nat × TypeId} {fs : List (Nat × TypeId)} : PTyF ty f (x :: fs) cells = ∃ a b, cells = a ++ b ∧ PTy ty f x.2 a ∧ PTyF ty f fs b := by simp only [PTyF]
end

/-- Types that the engine reads: numbers, bools, strings, slices, structs of these, laid out in a row. -/
def contig (ty : Ty) : Nat → List (Nat × TypeId) → Nat → Bool
  | off, [], n => off == n
  | off, x :: fs, n => x.1 == off && (ty x.2).isSome && contig ty (off + sizeT ty x.2) fs n
def plainT (ty : Ty) : Nat → TypeId → Bool
  | 0, _ => false
  | f + 1, t => match ty t with
    | some ⟨.it _, n, _, _⟩ => n == 1
    | some ⟨.bo, n, _, _⟩ => n == 1
    | some ⟨.ss, n, _, _⟩ => n == 1
    | some ⟨.sl e, n, _, _⟩ => n == 1 && sizeT ty e != 0 && plainT ty f e
    | some ⟨.st fs, n, _, _⟩ => contig ty 0 fs n && fs.all fun x => plainT ty f x.2
    | some ⟨.ar m e, n, _, _⟩ => contig ty 0 (arF m (sizeT ty e) e) n && plainT ty f e
    | _ => false

section
variable {P : Program} {W : World} {ty : Ty} {H : Type} {enc : TypeId × Value → H} {sp : Nat → Bool} {held : Bool}

theorem rd_list {e : TypeId} {rows : List (List PT)} {a : Addr} {cap : Nat} (hcap : rows.length ≤ cap) (hmax : cap ≤ maxLen) (hsz : 0 < P.cellsOf e)
    (h : ∀ (i : Nat) (r : List PT), rows[i]? = some r → r.length = P.cellsOf e ∧ ∀ (j : Nat) (c : PT), r[j]? = some c → ∃ u, W.cell? ((a.add (i * P.cellsOf e)).add j) = some u ∧ Rd P (botEnv W) c u) :
    Rd P (botEnv W) (.list e rows) (.slice (some a) rows.length cap) := by
  have hex : ∀ x : Nat × Nat, ∃ f : Path → Value, ∀ (r : List PT) (c : PT), rows[x.1]? = some r → r[x.2]? = some c → ∃ u, W.cell? ((a.add (x.1 * P.cellsOf e)).add x.2) = some u ∧ fcell c (f []) u ∧
      ∀ e2 rows2, c = .list e2 rows2 → ∀ p e' rows', At p c = some (e', rows') → RdNode P (botEnv W) e' rows' (fun i j => f (p ++ [(i, j)])) (f p) := by
    intro x
    cases hr : rows[x.1]? with
    | none => exact ⟨fun _ => undef, fun r c h1 => by cases h1⟩
    | some r =>
      cases hc : r[x.2]? with
      | none => exact ⟨fun _ => undef, fun r' c h1 h2 => by cases h1; rw [hc] at h2; cases h2⟩
      | some c =>
        obtain ⟨u, hu, hrd⟩ := (h x.1 r hr).2 x.2 c hc
        by_cases hl : ∃ e2 rows2, c = .list e2 rows2
        · obtain ⟨e2, rows2, rfl⟩ := hl
          obtain ⟨fh, h1, h2⟩ := hrd
          refine ⟨fh, fun r' c' h3 h4 => ?_⟩
          cases h3
          rw [hc] at h4
          cases h4
          exact ⟨u, hu, h1.symm, fun _ _ _ => h2⟩
        · refine ⟨fun _ => undef, fun r' c' h3 h4 => ?_⟩
          cases h3
          rw [hc] at h4
          cases h4
          refine ⟨u, hu, ?_, fun e2 rows2 hh => absurd ⟨e2, rows2, hh⟩ hl⟩
          cases c <;> first | exact hrd | exact absurd ⟨_, _, rfl⟩ hl
  obtain ⟨F, hF⟩ := Classical.axiomOfChoice hex
  refine ⟨fun p => match p with | [] => .slice (some a) rows.length cap | x :: q => F x q, rfl, fun p e' rows' hat => ?_⟩
  cases p with
  | nil =>
    simp only [At, Option.some.injEq, Prod.mk.injEq] at hat
    obtain ⟨rfl, rfl⟩ := hat
    refine ⟨some a, cap, rfl, hcap, hmax, ?_⟩
    cases hrows : rows with
    | nil => exact .inl rfl
    | cons r0 rest =>
      rw [hrows] at h hF
      have h0 := (h 0 r0 rfl)
      have hspot : a.spot = none ∧ ∀ k, a.add k = ⟨a.block, a.off + k, none⟩ := by
        have hlt : 0 < r0.length := by rw [h0.1]; exact hsz
        obtain ⟨u, hu, _⟩ := h0.2 0 _ (List.getElem?_eq_getElem hlt)
        have hs := World.cell?_spot hu
        have : a.spot = none := by
          rw [Nat.zero_mul] at hs
          simpa [Addr.add] using hs
        refine ⟨this, fun k => ?_⟩
        cases a with
        | mk b o s =>
          simp only at this
          subst this
          exact add_off b o k
      refine .inr ⟨a.block, a.off, by cases a; simp_all, fun i r hr => ?_⟩
      obtain ⟨h1, h2⟩ := h i r hr
      refine ⟨h1, fun j c hc => ?_⟩
      obtain ⟨u, h3, h4, _⟩ := hF (i, j) r c hr hc
      have hadd : (a.add (i * P.cellsOf e)).add j = ⟨a.block, a.off + (i * P.cellsOf e + j), none⟩ := by
        rw [hspot.2, add_off, Nat.add_assoc]
      rw [hadd] at h3
      refine ⟨u, ⟨?_, fun h => h, h3⟩, h4⟩
      unfold World.cell? at h3
      split at h3
      · rename_i hh; exact (Array.getElem?_eq_some_iff.1 hh).1
      · cases h3
  | cons x q =>
    obtain ⟨i, j⟩ := x
    simp only [At] at hat
    cases hr : rows[i]? with
    | none => rw [hr] at hat; simp at hat
    | some r =>
      rw [hr] at hat
      simp only [Option.getD_some] at hat
      cases hc : r[j]? with
      | none => rw [hc] at hat; simp at hat
      | some c =>
        rw [hc] at hat
        simp only [Option.bind_some] at hat
        obtain ⟨u, h3, h4, h5⟩ := hF (i, j) r c hr hc
        cases c with
        | list e2 rows2 => exact h5 e2 rows2 rfl q e' rows' hat
        | _ => cases q <;> simp [At] at hat

def Reads (P : Program) (W : World) (ty : Ty) (n : Nat) (t : TypeId) (cs : List Value) : Prop :=
  ∃ cells : List PT, cells.length = cs.length ∧ cs.length = sizeT ty t ∧ PTy ty n t cells ∧ ∀ (j : Nat) (c : PT) (u : Value), cells[j]? = some c → cs[j]? = some u → Rd P (botEnv W) c u

theorem reads_one {n : Nat} {t : TypeId} {c : PT} {u : Value} (hs : sizeT ty t = 1) (hp : PTy ty n t [c]) (hr : Rd P (botEnv W) c u) : Reads P W ty n t [u] := by
  refine ⟨[c], rfl, by rw [hs]; rfl, hp, fun j c' u' hc hu => ?_⟩
  cases j with
  | zero => simp only [List.getElem?_cons_zero, Option.some.injEq] at hc hu; subst hc; subst hu; exact hr
  | succ j => simp at hc

theorem reads_fields {n : Nat} {cs : List Value} : ∀ (fs : List (Nat × TypeId)) (off : Nat), contig ty off fs cs.length = true → off ≤ cs.length → (∀ x ∈ fs, Reads P W ty n x.2 ((cs.drop x.1).take (sizeT ty x.2))) →
    ∃ cells : List PT, off + cells.length = cs.length ∧ PTyF ty n fs cells ∧ ∀ (j : Nat) (c : PT) (u : Value), cells[j]? = some c → cs[off + j]? = some u → Rd P (botEnv W) c u
  | [], off, hc, hle, _ => by
    simp only [contig, beq_iff_eq] at hc
    exact ⟨[], by simp [hc], by simp [PTyF], fun j c u h => by simp at h⟩
  | x :: fs, off, hc, hle, h => by
    simp only [contig, Bool.and_eq_true, beq_iff_eq] at hc
    obtain ⟨⟨h1, h2⟩, h3⟩ := hc
    obtain ⟨a, a1, a2, a3, a4⟩ := h x (List.mem_cons_self ..)
    have hle2 : off + sizeT ty x.2 ≤ cs.length := by
      simp only [List.length_take, List.length_drop, h1] at a2
      omega
    obtain ⟨b, b1, b2, b3⟩ := reads_fields fs (off + sizeT ty x.2) h3 hle2 fun y hy => h y (List.mem_cons_of_mem _ hy)
    refine ⟨a ++ b, by simp only [List.length_append]; omega, by simp only [PTyF]; exact ⟨a, b, rfl, a3, b2⟩, fun j c u hc hu => ?_⟩
    rw [List.getElem?_append] at hc
    split at hc
    · rename_i hj
      refine a4 j c u hc ?_
      rw [List.getElem?_take, if_pos (by omega), List.getElem?_drop, h1]
      exact hu
    · rename_i hj
      refine b3 (j - a.length) c u hc ?_
      rw [← hu]
      congr 1
      omega

theorem trod_read (hT : TyOK P ty) : ∀ (n : Nat) (t : TypeId) (fuel : Nat) (cs : List Value) (x : DataW H × List MemPlace), plainT ty n t = true → DataW.trod enc P W 0 sp held fuel t cs = some x → Reads P W ty n t cs
  | 0, _, _, _, _, hp, _ => by cases hp
  | n + 1, t, 0, cs, x, hp, h => by simp [DataW.trod] at h
  | n + 1, t, fuel + 1, cs, x, hp, h => by
    unfold plainT at hp
    split at hp
    · rename_i k n' b z ht
      have hu : P.underlying t = some (.int k) := (hT t _ ht).desc
      have hs : sizeT ty t = 1 := by simp only [sizeT, ht]; simpa using hp
      match cs, h with
      | [], h => simp [DataW.trod, hu] at h
      | v :: v2 :: rest, h => cases v <;> simp [DataW.trod, hu] at h
      | [v], h =>
        cases v <;> try (simp [DataW.trod, hu] at h; done)
        rename_i k' m
        simp only [DataW.trod, hu] at h
        split at h
        · rename_i hk
          obtain ⟨rfl, hwf⟩ := hk
          simp only [Lit.wf, Bool.and_eq_true, decide_eq_true_eq] at hwf
          exact reads_one (c := .int k' m) hs (by simp only [PTy, ht]; exact ⟨m, rfl, hwf⟩) rfl
        · cases h
    · rename_i n' b z ht
      have hu : P.underlying t = some .bool := (hT t _ ht).desc
      have hs : sizeT ty t = 1 := by simp only [sizeT, ht]; simpa using hp
      match cs, h with
      | [], h => simp [DataW.trod, hu] at h
      | v :: v2 :: rest, h => cases v <;> simp [DataW.trod, hu] at h
      | [v], h =>
        cases v <;> try (simp [DataW.trod, hu] at h; done)
        rename_i m
        exact reads_one (c := .bool m) hs (by simp only [PTy, ht]; exact ⟨m, rfl⟩) rfl
    · rename_i n' b z ht
      have hu : P.underlying t = some .string := (hT t _ ht).desc
      have hs : sizeT ty t = 1 := by simp only [sizeT, ht]; simpa using hp
      match cs, h with
      | [], h => simp [DataW.trod, hu] at h
      | v :: v2 :: rest, h => cases v <;> simp [DataW.trod, hu] at h
      | [v], h =>
        cases v <;> try (simp [DataW.trod, hu] at h; done)
        rename_i m
        simp only [DataW.trod, hu] at h
        split at h
        · rename_i hk
          exact reads_one (c := .str m) hs (by simp only [PTy, ht]; exact ⟨m, rfl, hk⟩) rfl
        · cases h
    · rename_i e n' b z ht
      have hu : P.underlying t = some (.slice e) := (hT t _ ht).desc
      simp only [Bool.and_eq_true, bne_iff_ne, ne_eq, beq_iff_eq] at hp
      obtain ⟨⟨hp1, hp2⟩, hp3⟩ := hp
      have hs : sizeT ty t = 1 := by simp only [sizeT, ht]; exact hp1
      obtain ⟨de, hde, hsz⟩ := sizeT_spec hT hp2
      have hce : P.cellsOf e = sizeT ty e := by rw [(hT e de hde).cells, hsz]
      match cs, h with
      | [], h => simp [DataW.trod, hu] at h
      | v :: v2 :: rest, h => cases v <;> simp [DataW.trod, hu] at h
      | [v], h =>
        cases v <;> try (simp [DataW.trod, hu] at h; done)
        rename_i A len cap
        cases A with
        | none =>
          cases len with
          | succ l => simp [DataW.trod, hu] at h
          | zero =>
            cases cap with
            | succ l => simp [DataW.trod, hu] at h
            | zero =>
              refine reads_one (c := .list e []) hs (by simp only [PTy, ht]; exact ⟨[], rfl, by simp, fun r hr => by simp at hr⟩) ?_
              refine ⟨fun _ => .slice none 0 0, rfl, fun p e' rows' hat => ?_⟩
              cases p with
              | nil =>
                simp only [At, Option.some.injEq, Prod.mk.injEq] at hat
                obtain ⟨rfl, rfl⟩ := hat
                exact ⟨none, 0, rfl, by simp, by simp [maxLen], .inl rfl⟩
              | cons x q => obtain ⟨i, j⟩ := x; simp [At] at hat
        | some a =>
          simp only [DataW.trod, hu] at h
          split at h
          · rename_i hk
            obtain ⟨_, hk1, hk2⟩ := hk
            cases hm : (List.range len).mapM fun i => (W.cells? 0 (a.add (i * P.cellsOf e)) (P.cellsOf e)).bind (DataW.trod enc P W 0 sp held fuel e) with
            | none => rw [hm] at h; simp at h
            | some elems =>
              have hel : ∀ i, ∃ r : List PT, i < len → r.length = P.cellsOf e ∧ PTy ty n e r ∧ ∀ (j : Nat) (c : PT), r[j]? = some c → ∃ u, W.cell? ((a.add (i * P.cellsOf e)).add j) = some u ∧ Rd P (botEnv W) c u := by
                intro i
                by_cases hi : i < len
                · have h1 := mapM_some_get hm i i (by simp [hi])
                  have hlen := mapM_some_length hm
                  have hlt : i < elems.length := by simpa [hlen] using hi
                  rw [List.getElem?_eq_getElem hlt] at h1
                  rw [Option.bind_eq_some_iff] at h1
                  obtain ⟨ci, h2, h3⟩ := h1
                  obtain ⟨cells, k1, k2, k3, k4⟩ := trod_read hT n e fuel ci _ hp3 h3
                  obtain ⟨_, m1, m2⟩ := World.cells?_some h2
                  refine ⟨cells, fun _ => ⟨by rw [k1, m1], k3, fun j c hc => ?_⟩⟩
                  have hj : j < ci.length := by rw [← k1]; exact (List.getElem?_eq_some_iff.1 hc).1
                  refine ⟨ci[j], ?_, k4 j c _ hc (List.getElem?_eq_getElem hj)⟩
                  rw [m2 j (by omega), List.getElem?_eq_getElem hj]
                · exact ⟨[], fun hh => absurd hh hi⟩
              obtain ⟨R, hR⟩ := Classical.axiomOfChoice hel
              have hRl : ((List.range len).map R).length = len := by simp
              have hRi : ∀ i r, ((List.range len).map R)[i]? = some r → i < len ∧ r = R i := fun i r hr => by
                have hi : i < len := by
                  have := (List.getElem?_eq_some_iff.1 hr).1
                  simpa using this
                rw [List.getElem?_map, List.getElem?_range hi] at hr
                simp only [Option.map_some, Option.some.injEq] at hr
                exact ⟨hi, hr.symm⟩
              have hrd := rd_list (P := P) (W := W) (e := e) (rows := (List.range len).map R) (a := a) (cap := cap) (by rw [hRl]; exact hk1) hk2 (by omega) (fun i r hr => by
                obtain ⟨hi, rfl⟩ := hRi i r hr
                exact ⟨(hR i hi).1, (hR i hi).2.2⟩)
              rw [hRl] at hrd
              refine reads_one (c := .list e ((List.range len).map R)) hs (by
                simp only [PTy, ht]
                refine ⟨_, rfl, by rw [hRl]; omega, fun r hr => ?_⟩
                obtain ⟨i, hi⟩ := List.getElem?_of_mem hr
                obtain ⟨hi2, rfl⟩ := hRi i r hi
                exact (hR i hi2).2.1) hrd
          · cases h
    · rename_i fs n' b z ht
      obtain ⟨F, hu, hF⟩ : ∃ F, P.underlying t = some (.struct F) ∧ F.toList.map (fun f => (f.offset, f.type)) = fs := (hT t _ ht).desc
      simp only [Bool.and_eq_true, List.all_eq_true] at hp
      obtain ⟨hp1, hp2⟩ := hp
      have hs : P.cellsOf t = n' := (hT t _ ht).cells
      have hs2 : sizeT ty t = n' := by simp only [sizeT, ht]
      have hx : ∃ y, (if cs.length = P.cellsOf t then (F.toList.mapM fun f => DataW.trod enc P W 0 sp held fuel f.type ((cs.drop f.offset).take (P.cellsOf f.type))).map fun xs => ((DataW.agg (xs.map (·.1)) : DataW H), xs.flatMap (·.2)) else none) = some y := by
        simp only [DataW.trod, hu] at h
        first
          | exact ⟨_, h⟩
          | (split at h <;> first | exact ⟨_, h⟩ | contradiction | (simp_all; done))
      obtain ⟨y, hx⟩ := hx
      split at hx
      · rename_i hlen
        cases hm : F.toList.mapM fun f => DataW.trod enc P W 0 sp held fuel f.type ((cs.drop f.offset).take (P.cellsOf f.type)) with
        | none => rw [hm] at hx; simp at hx
        | some xs =>
          have hall : ∀ z ∈ fs, Reads P W ty n z.2 ((cs.drop z.1).take (sizeT ty z.2)) := by
            intro z hz
            have hpz := hp2 z hz
            rw [← hF, List.mem_map] at hz
            obtain ⟨f, hf, rfl⟩ := hz
            obtain ⟨i, hi⟩ := List.getElem?_of_mem hf
            have h1 := mapM_some_get hm i f hi
            have hlt : i < xs.length := by rw [mapM_some_length hm]; exact (List.getElem?_eq_some_iff.1 hi).1
            rw [List.getElem?_eq_getElem hlt] at h1
            have hsz : P.cellsOf f.type = sizeT ty f.type := by
              cases hty : ty f.type with
              | none => cases n with
                | zero => cases hpz
                | succ n => simp only [plainT, hty] at hpz; cases hpz
              | some d => rw [(hT f.type d hty).cells]; simp only [sizeT, hty]
            rw [hsz] at h1
            exact trod_read hT n f.type fuel _ _ hpz h1
          obtain ⟨cells, c1, c2, c3⟩ := reads_fields (P := P) (W := W) (ty := ty) (n := n) (cs := cs) fs 0 (by rw [hlen, hs]; exact hp1) (by omega) hall
          refine ⟨cells, by omega, by rw [hlen, hs, hs2], by simp only [PTy, ht]; exact c2, fun j c u hc hu => ?_⟩
          exact c3 j c u hc (by rw [Nat.zero_add]; exact hu)
      · cases hx
    · rename_i m e n' b z ht
      have hu : P.underlying t = some (.array m e) := (hT t _ ht).desc
      simp only [Bool.and_eq_true] at hp
      obtain ⟨hp1, hp2⟩ := hp
      have hs : P.cellsOf t = n' := (hT t _ ht).cells
      have hs2 : sizeT ty t = n' := by simp only [sizeT, ht]
      have hsz : P.cellsOf e = sizeT ty e := by
        cases hty : ty e with
        | none => cases n with
          | zero => cases hp2
          | succ n => simp only [plainT, hty] at hp2; cases hp2
        | some d => rw [(hT e d hty).cells]; simp only [sizeT, hty]
      have hx : ∃ y, (if cs.length = P.cellsOf t then ((List.range m).mapM fun i => DataW.trod enc P W 0 sp held fuel e ((cs.drop (i * P.cellsOf e)).take (P.cellsOf e))).map fun xs => ((DataW.agg (xs.map (·.1)) : DataW H), xs.flatMap (·.2)) else none) = some y := by
        simp only [DataW.trod, hu] at h
        first
          | exact ⟨_, h⟩
          | (split at h <;> first | exact ⟨_, h⟩ | contradiction | (simp_all; done))
      obtain ⟨y, hx⟩ := hx
      split at hx
      · rename_i hlen
        cases hm : (List.range m).mapM fun i => DataW.trod enc P W 0 sp held fuel e ((cs.drop (i * P.cellsOf e)).take (P.cellsOf e)) with
        | none => rw [hm] at hx; simp at hx
        | some xs =>
          have hall : ∀ z ∈ arF m (sizeT ty e) e, Reads P W ty n z.2 ((cs.drop z.1).take (sizeT ty z.2)) := by
            intro z hz
            simp only [arF, List.mem_map, List.mem_range] at hz
            obtain ⟨i, hi, rfl⟩ := hz
            have h1 := mapM_some_get hm i i (by simp [hi])
            have hlt : i < xs.length := by rw [mapM_some_length hm]; simpa using hi
            rw [List.getElem?_eq_getElem hlt, hsz] at h1
            exact trod_read hT n e fuel _ _ hp2 h1
          obtain ⟨cells, c1, c2, c3⟩ := reads_fields (P := P) (W := W) (ty := ty) (n := n) (cs := cs) (arF m (sizeT ty e) e) 0 (by rw [hlen, hs]; exact hp1) (by omega) hall
          refine ⟨cells, by omega, by rw [hlen, hs, hs2], by simp only [PTy, ht]; exact c2, fun j c u hc hu => ?_⟩
          exact c3 j c u hc (by rw [Nat.zero_add]; exact hu)
      · cases hx
    · cases hp
end
end Go.Proofs.Ytclljpdcpcolpaa
