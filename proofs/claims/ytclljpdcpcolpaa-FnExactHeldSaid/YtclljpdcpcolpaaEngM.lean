/- The value-level engine, thirteenth part: append. -/
import Derived.Test.YtclljpdcpcolpaaEngL
namespace Go.Proofs.Ytclljpdcpcolpaa
open Go Go.RowKit
set_option linter.unusedVariables false
set_option linter.unusedSimpArgs false

section
variable {P : Program} {E : Env} {g : Gh} {H : Heap} {w w' : World} {ty : Ty}

theorem hrel_kill (h : HRel P E g H w) (T : Nat) : HRel P E g (updH T .dead H) w ∧ HLe g H g (updH T .dead H) := by
  have hle : HLe g H g (updH T .dead H) := by
    refine ⟨fun _ h => h, fun X e rows hX hh => ?_, fun X hX hh => ?_, fun X hX _ => rfl, fun X hX _ => rfl⟩
    · by_cases c : X = T
      · subst c; rw [updH_same] at hh; cases hh
      · rw [updH_ne _ _ c] at hh; exact ⟨rows, hh⟩
    · by_cases c : X = T
      · subst c; rw [updH_same] at hh; cases hh
      · rwa [updH_ne _ _ c] at hh
  refine ⟨⟨h.frm, fun X e rows hX p e2 rows2 hp => ?_, fun X cs hX => ?_, fun X hX => ?_⟩, hle⟩
  · have c : X ≠ T := by rintro rfl; rw [updH_same] at hX; cases hX
    rw [updH_ne _ _ c] at hX
    exact node_mono hle (h.node X e rows hX p e2 rows2 hp) (fun _ => rfl) (fun _ _ hb => hb) (fun _ _ _ => rfl)
  · have c : X ≠ T := by rintro rfl; rw [updH_same] at hX; cases hX
    rw [updH_ne _ _ c] at hX
    exact box_mono hle (h.box X cs hX) rfl (fun hh => hh) (fun _ _ hh => hh) (fun cur e he => ⟨cur, he, fun _ _ _ => rfl⟩)
  · by_cases c : X = T
    · rw [c, updH_same] at hX; cases hX
    · rw [updH_ne _ _ c] at hX; exact h.seen X hX

/-- What is appended: m rows that lie somewhere. -/
def Src (P : Program) (g : Gh) (H : Heap) (w : World) (e : TypeId) (ns : List (List PT)) (A : Option Addr) : Prop :=
  ns = [] ∨ ∃ b o, A = some ⟨b, o, none⟩ ∧ ∀ i r, ns[i]? = some r → r.length = P.cellsOf e ∧
    ∀ (j : Nat) (c : PT), r[j]? = some c → ∃ u, w.cell? ⟨b, o + (i * P.cellsOf e + j), none⟩ = some u ∧ u.oneCell' = true ∧ ∀ hh, ocell H g c hh u

/-- The cells of what is appended, as a list. -/
theorem src_list {e : TypeId} {ns : List (List PT)} {b o : Nat} (hs : ∀ i r, ns[i]? = some r → r.length = P.cellsOf e ∧
    ∀ (j : Nat) (c : PT), r[j]? = some c → ∃ u, w.cell? ⟨b, o + (i * P.cellsOf e + j), none⟩ = some u ∧ u.oneCell' = true ∧ ∀ hh, ocell H g c hh u) :
    ∃ news : List Value, news.length = ns.length * P.cellsOf e ∧ (∀ (k : Nat) (u : Value), news[k]? = some u → w.cell? ((⟨b, o, none⟩ : Addr).add k) = some u) ∧ (∀ u ∈ news, u.oneCell' = true) ∧
      ∀ i r, ns[i]? = some r → r.length = P.cellsOf e ∧ ∀ (j : Nat) (c : PT), r[j]? = some c → ∃ u, news[i * P.cellsOf e + j]? = some u ∧ ∀ hh, ocell H g c hh u := by
  have key : ∀ k, k < ns.length * P.cellsOf e → ∃ u, w.cell? ⟨b, o + k, none⟩ = some u ∧ u.oneCell' = true := by
    intro k hk
    have hsz : 0 < P.cellsOf e := by
      rcases Nat.eq_zero_or_pos (P.cellsOf e) with h0 | h0
      · rw [h0] at hk; simp at hk
      · exact h0
    have hi : k / P.cellsOf e < ns.length := (Nat.div_lt_iff_lt_mul hsz).2 hk
    obtain ⟨h1, h2⟩ := hs (k / P.cellsOf e) _ (List.getElem?_eq_getElem hi)
    have hj : k % P.cellsOf e < ns[k / P.cellsOf e].length := by rw [h1]; exact Nat.mod_lt _ hsz
    obtain ⟨u, hu, h3, _⟩ := h2 (k % P.cellsOf e) _ (List.getElem?_eq_getElem hj)
    rw [show k / P.cellsOf e * P.cellsOf e + k % P.cellsOf e = k by rw [Nat.mul_comm]; exact Nat.div_add_mod k _] at hu
    exact ⟨u, hu, h3⟩
  refine ⟨(List.range (ns.length * P.cellsOf e)).map fun k => (w.cell? ⟨b, o + k, none⟩).getD undef, by simp, fun k u hu => ?_, fun u hu => ?_, fun i r hr => ?_⟩
  · simp only [List.getElem?_map] at hu
    rcases Nat.lt_or_ge k (ns.length * P.cellsOf e) with hk | hk
    · rw [List.getElem?_range hk] at hu
      simp only [Option.map_some, Option.some.injEq] at hu
      obtain ⟨u', h1, _⟩ := key k hk
      rw [h1] at hu
      simp only [Option.getD_some] at hu
      rw [add_off, ← hu]
      exact h1
    · rw [List.getElem?_eq_none (by simpa using hk)] at hu; cases hu
  · simp only [List.mem_map, List.mem_range] at hu
    obtain ⟨k, hk, rfl⟩ := hu
    obtain ⟨u', h1, h2⟩ := key k hk
    rw [h1]
    exact h2
  · obtain ⟨h1, h2⟩ := hs i r hr
    refine ⟨h1, fun j c hc => ?_⟩
    obtain ⟨u, h3, _, h4⟩ := h2 j c hc
    refine ⟨u, ?_, h4⟩
    have hi : i < ns.length := (List.getElem?_eq_some_iff.1 hr).1
    have hj : j < r.length := (List.getElem?_eq_some_iff.1 hc).1
    have hlt : i * P.cellsOf e + j < ns.length * P.cellsOf e := by
      have : (i + 1) * P.cellsOf e ≤ ns.length * P.cellsOf e := Nat.mul_le_mul_right _ hi
      rw [Nat.add_mul] at this
      omega
    simp only [List.getElem?_map, List.getElem?_range hlt, Option.map_some, h3, Option.getD_some]

theorem run_app_nothing {t tr e : TypeId} {i : TypeInfo} (ht : P.underlying t = some (.slice e)) (hi : P.info? e = some i) (B A : Option Addr) (n cap c : Nat) (hn : n ≤ cap) :
    (Builtin.append_ #[t, t] tr #[.slice B n cap, .slice A 0 c]).run P w = .ok (.slice B n cap) w := by
  cases A <;> cases B <;> simp [Builtin.append_, run_underlying ht, sizeOf, typeInfo, hi, Builtin.lenOf, Builtin.firstCells, hn, storeCells, loadCells, loadCellsFrom]

theorem append_rel (hT : TyOK P ty) (h : HRel P E g H w) {Y : Nat} (hY : g.sn Y = false) {t tr e : TypeId} {d : TyE} (ht : P.underlying t = some (.slice e)) (hde : ty e = some d) (hz : d.zero ≠ []) (hzl : d.zero.length = d.size)
    {T n : Nat} {rows : List (List PT)} (hTr : H T = .root e rows) (hn : n ≤ rows.length) {ns : List (List PT)} {A : Option Addr} {c : Nat} (hs : Src P g H w e ns A)
    (hns : ∀ r ∈ ns, ∀ c ∈ r, ∀ e rows, c ≠ PT.list e rows) (hbytes : (n + ns.length) * d.bytes ≤ 140737488355328) (hmax : n + ns.length ≤ maxLen) :
    ∃ v' w' g', (Builtin.append_ #[t, t] tr #[cutv n (g.hd T []), .slice A ns.length c]).run P w = .ok v' w' ∧ (∀ X, X ≠ Y → g'.sn X = g.sn X) ∧
      HRel P E g' (updH Y (.root e (rows.take n ++ ns)) (updH T .dead H)) w' ∧ CRel P E (updH Y (.root e (rows.take n ++ ns)) (updH T .dead H)) g' (.rf Y (n + ns.length)) v' ∧
      HLe g H g' (updH Y (.root e (rows.take n ++ ns)) (updH T .dead H)) := by
  have hTlt := own_root_lt h hTr
  have h1 := hT e d hde
  obtain ⟨zv, _, _, hzs, i, hi, hiz, his, hib⟩ := zero_rel (P := P) (E := E) (H := H) (g := g) (w := w) hT hde hz
  have hcs : P.cellsOf e = i.size := by rw [h1.cells, his]
  have hsmall : n + ns.length ≤ 9223372036854775807 := by simp only [maxLen] at hmax; omega
  have hle : ∀ (v : Value) (nb : Option Nat), HLe g H (g.grow Y T nb v) (updH Y (.root e (rows.take n ++ ns)) (updH T .dead H)) := by
    intro v nb
    have hne : ∀ X, g.sn X = true → X ≠ Y := fun X hX hh => by rw [hh, hY] at hX; cases hX
    refine ⟨fun X hX => by simp [Gh.grow, hX], fun X e' rows' hX hh => ?_, fun X hX hh => ?_, fun X hX _ => ?_, fun X hX _ => rfl⟩
    · rw [updH_ne _ _ (hne X hX)] at hh
      by_cases c1 : X = T
      · subst c1; rw [updH_same] at hh; cases hh
      · rw [updH_ne _ _ c1] at hh; exact ⟨_, hh⟩
    · rw [updH_ne _ _ (hne X hX)] at hh
      by_cases c1 : X = T
      · subst c1; rw [updH_same] at hh; cases hh
      · rwa [updH_ne _ _ c1] at hh
    · simp only [Gh.grow]
      rw [if_neg (hne X hX)]
  rcases h.node T e rows hTr [] e rows rfl with ⟨hhd, hnil⟩ | ⟨b, cap, cur, hhd, hown, hpl, hw, hcap, hcm, hsz, hrows⟩
  · -- the nil slice
    subst hnil
    have hn0 : n = 0 := by simpa using hn
    subst hn0
    rw [hhd]
    simp only [cutv, List.take_nil, List.nil_append, Nat.zero_add] at *
    by_cases h0 : ns = []
    · subst h0
      obtain ⟨k1, k2⟩ := hrel_kill h T
      obtain ⟨k3, k4⟩ := hrel_nil k1 hY e
      refine ⟨.slice none 0 0, w, _, run_app_nothing ht hi none A 0 0 c (Nat.le_refl _), (fun X hX => by simp [Gh.fresh, hX]), k3, k4, k2.trans (hle_new hY (fun T hT => by simp [Gh.fresh, hT]) (fun X p hX => by simp [Gh.fresh, hX]) (fun X hX => rfl))⟩
    · rcases hs with h1' | ⟨b2, o2, rfl, hs⟩
      · exact absurd h1' h0
      · obtain ⟨news, n1, n2, n3, n4⟩ := src_list (g := g) (H := H) hs
        have hpos : 0 < ns.length := List.length_pos_iff.2 h0
        have hr := run_append_nil (P := P) w t tr e i zv ht hi hiz ⟨b2, o2, none⟩ ns.length c news (by rw [n1, hcs]) n2 hpos (by omega) (by rw [hib]; omega)
        have hge := grownCap_ge w ns.length 0 e
        have hgm := grownCap_le_maxLen w ns.length 0 e hmax
        have hg := hrel_grow (w' := w.drew.alloc (.cells (news.toArray ++ Builtin.zeroCells zv.cells (grownCap w ns.length 0 e - ns.length)) e)) (n := 0) h hY hTr (Nat.zero_le _) hns
          (v := .slice (some ⟨w.heap.size, 0, none⟩) ns.length (grownCap w ns.length 0 e)) (nb := w.heap.size) (by rw [Nat.zero_add]) (h.frm.drew.alloc _) (heap_alloc_new w.drew _) (fun b hb _ => Below.heap_alloc w.drew _ b hb) (.inl rfl) (.inl h.frm.size)
          (by omega) hgm (by simp only [Array.size_append, List.size_toArray, size_zeroCells, n1, hzs, hzl, ← his, hcs, ← Nat.add_mul]; congr 1; omega) (fun i r hi => by omega)
          (fun i r hr => by
            obtain ⟨m1, m2⟩ := n4 i r hr
            refine ⟨m1, fun j c hc => ?_⟩
            obtain ⟨u, m3, m4⟩ := m2 j c hc
            have hlt := (List.getElem?_eq_some_iff.1 m3).1
            refine ⟨u, ?_, m4⟩
            rw [Nat.zero_add, Array.getElem?_append_left (by simpa using hlt)]
            simpa using m3)
        simp only [List.take_nil, List.nil_append, Nat.zero_add] at hg
        exact ⟨_, _, _, hr, (fun X hX => by simp [Gh.grow, hX]), hg.1, hg.2, hle _ _⟩
  · have hlenrow : ∀ i r, i < n → rows[i]? = some r → r.length = P.cellsOf e := fun i r _ hr => (hrows i r hr).1
    rw [hhd]
    simp only [cutv]
    have hold0 : ∀ (cur' : Array Value), (∀ k, k < n * P.cellsOf e → cur'[k]? = cur[k]?) → ∀ i r, i < n → rows[i]? = some r → ∀ (j : Nat), j < P.cellsOf e → ∀ cur2 b2 m c, g.hd T [] = .slice (some ⟨b2, 0, none⟩) m c → w.heap[b2]? = some (.cells cur2 e (0, 0)) → cur'[i * P.cellsOf e + j]? = cur2[i * P.cellsOf e + j]? := by
      intro cur' hk i r hin hr j hj cur2 b2 m c2 hh hw2
      rw [hhd] at hh
      injection hh with e1
      injection e1 with e1
      injection e1 with e1
      subst e1
      rw [hw] at hw2
      injection hw2 with e2
      injection e2 with e2
      subst e2
      refine hk _ ?_
      have : (i + 1) * P.cellsOf e ≤ n * P.cellsOf e := Nat.mul_le_mul_right _ hin
      rw [Nat.add_mul] at this
      omega
    by_cases h0 : ns = []
    · subst h0
      have hg := hrel_grow (w' := w) (n := n) (ns := []) h hY hTr hn hns (v := .slice (some ⟨b, 0, none⟩) n cap) (nb := b) (by simp) h.frm hw (fun _ _ _ => rfl) (.inr hown) hpl (by simp; omega) hcm hsz (hold0 cur fun _ _ => rfl) (fun i r hr => by simp at hr)
      exact ⟨_, _, _, run_app_nothing ht hi _ A n cap c (by omega), (fun X hX => by simp [Gh.grow, hX]), hg.1, hg.2, hle _ _⟩
    · rcases hs with h1' | ⟨b2, o2, rfl, hs⟩
      · exact absurd h1' h0
      · obtain ⟨news, n1, n2, n3, n4⟩ := src_list (g := g) (H := H) hs
        have hpos : 0 < ns.length := List.length_pos_iff.2 h0
        have hxs : n * P.cellsOf e ≤ cur.size := by rw [hsz]; exact Nat.mul_le_mul_right _ (by omega)
        by_cases hroom : n + ns.length ≤ cap
        · have hfit : n * P.cellsOf e + news.length ≤ cur.size := by rw [n1, hsz, ← Nat.add_mul]; exact Nat.mul_le_mul_right _ hroom
          have hr := run_append_room (P := P) w t tr e i ht hi b n cap cur hw ⟨b2, o2, none⟩ ns.length c news (by rw [n1, hcs]) n2 n3 hroom (by rw [← hcs]; exact hfit)
          have hfit' : n * P.cellsOf e + news.length ≤ cur.toList.length := by simpa using hfit
          have hsp := spl_get hfit'
          rw [← hcs] at hr
          have hg := hrel_grow (w' := w.setRow b (spl cur.toList (n * P.cellsOf e) news).toArray) (n := n) h hY hTr hn hns (v := .slice (some ⟨b, 0, none⟩) (n + ns.length) cap) (nb := b) rfl
            (frm_set h.frm hw hfit (by rcases hpl with q | q; · exact .inl q
                                       · exact .inr fun k _ _ => q k))
            (setRow_heap w b cur _ e (0, 0) hw) (fun b' _ hb' => setRow_other w b b' _ hb') (.inr hown) hpl hroom hcm (by simp [spl_length hfit', hsz])
            (hold0 _ fun k hk => by simp only [List.getElem?_toArray, hsp, if_pos hk, Array.getElem?_toList])
            (fun i r hr => by
              obtain ⟨m1, m2⟩ := n4 i r hr
              refine ⟨m1, fun j c hc => ?_⟩
              obtain ⟨u, m3, m4⟩ := m2 j c hc
              have hlt := (List.getElem?_eq_some_iff.1 m3).1
              refine ⟨u, ?_, m4⟩
              simp only [List.getElem?_toArray, hsp]
              rw [if_neg (by rw [Nat.add_mul]; omega), if_pos (by rw [Nat.add_mul]; omega), show (n + i) * P.cellsOf e + j - n * P.cellsOf e = i * P.cellsOf e + j by rw [Nat.add_mul]; omega]
              exact m3)
          exact ⟨_, _, _, hr, (fun X hX => by simp [Gh.grow, hX]), hg.1, hg.2, hle _ _⟩
        · have hol : (cur.toList.take (n * P.cellsOf e)).length = n * i.size := by rw [List.length_take, ← hcs]; simp; omega
          have holds : ∀ (j : Nat) (v : Value), (cur.toList.take (n * P.cellsOf e))[j]? = some v → w.cell? ((⟨b, 0, none⟩ : Addr).add j) = some v := by
            intro j v hj
            rw [List.getElem?_take] at hj
            split at hj
            · rw [add_off, cell_of_row w b _ cur e (0, 0) hw]
              simpa using hj
            · cases hj
          have hr := run_append_grow (P := P) w t tr e i zv ht hi hiz ⟨b, 0, none⟩ n cap (cur.toList.take (n * P.cellsOf e)) hol holds ⟨b2, o2, none⟩ ns.length c news (by rw [n1, hcs]) n2 (by omega) (by omega) (growslice_fits (by omega) (by rw [hib]; exact hbytes))
          have hge := grownCap_ge w (n + ns.length) cap e
          have hgm := grownCap_le_maxLen w (n + ns.length) cap e hmax
          have hlt0 : (cur.toList.take (n * P.cellsOf e)).length = n * P.cellsOf e := by rw [hol, hcs]
          have hg := hrel_grow (w' := w.drew.alloc (.cells ((cur.toList.take (n * P.cellsOf e)).toArray ++ news.toArray ++ Builtin.zeroCells zv.cells (grownCap w (n + ns.length) cap e - (n + ns.length))) e)) (n := n) h hY hTr hn hns
            (v := .slice (some ⟨w.heap.size, 0, none⟩) (n + ns.length) (grownCap w (n + ns.length) cap e)) (nb := w.heap.size) rfl (h.frm.drew.alloc _) (heap_alloc_new w.drew _) (fun b hb _ => Below.heap_alloc w.drew _ b hb) (.inl rfl) (.inl h.frm.size)
            hge hgm (by
              simp only [Array.size_append, List.size_toArray, size_zeroCells, n1, hzs, hzl, hlt0]
              rw [← his, hcs, ← Nat.add_mul, ← Nat.add_mul]
              congr 1
              omega)
            (hold0 _ fun k hk => by
              rw [Array.append_assoc, Array.getElem?_append_left (by simpa [hlt0] using hk)]
              simp only [List.getElem?_toArray, List.getElem?_take, if_pos hk, Array.getElem?_toList])
            (fun i r hr => by
              obtain ⟨m1, m2⟩ := n4 i r hr
              refine ⟨m1, fun j c hc => ?_⟩
              obtain ⟨u, m3, m4⟩ := m2 j c hc
              have hlt := (List.getElem?_eq_some_iff.1 m3).1
              refine ⟨u, ?_, m4⟩
              rw [Array.getElem?_append_left (by simp only [Array.size_append, List.size_toArray, hlt0]; rw [Nat.add_mul]; omega), Array.getElem?_append_right (by simp only [List.size_toArray, hlt0]; rw [Nat.add_mul]; omega)]
              simp only [List.size_toArray, hlt0, List.getElem?_toArray]
              rw [show (n + i) * P.cellsOf e + j - n * P.cellsOf e = i * P.cellsOf e + j by rw [Nat.add_mul]; omega]
              exact m3)
          exact ⟨_, _, _, hr, (fun X hX => by simp [Gh.grow, hX]), hg.1, hg.2, hle _ _⟩
end
end Go.Proofs.Ytclljpdcpcolpaa
