/- What strconv.Itoa and the reference's own telling of numbers give. -/
import Derived.Test.YtchkbgekmoileaaDoorEc
import Derived.Test.YtchkbgekmoileaaDoorEf
import Derived.Test.YtchkbgekmoileaaDoorSTs
import Derived.Test.YtchkbgekmoileaaDoorShelfD
namespace Go.Proofs.YtchkbgekmoileaaDoor
open Go Go.RowKit
set_option linter.unusedVariables false
set_option linter.unusedSimpArgs false
set_option maxRecDepth 100000
set_option maxHeartbeats 8000000

theorem good_tab {w : World} (h : GoodW w) : Lib.TabIs Tryd.prog w "internal/strconv.uint64pow10" .u64 Lib.pow10Tab := by
  obtain ⟨h1, h2⟩ := h
  obtain ⟨cs, e, fz, h3, h4⟩ := h2 1 20 rfl
  unfold Lib.TabIs World.var?
  rw [show Tryd.prog.globalNamed "internal/strconv.uint64pow10" = some 1 by kernel_rfl]
  simp only [Option.bind_some, h3, Option.some.injEq]
  refine Array.ext_getElem? fun o => ?_
  rcases Nat.lt_or_ge o 20 with ho | ho
  · have hu : ∃ u, goodC 1 o = some u ∧ (Lib.pow10Tab.map fun z => Value.int .u64 z).toArray[o]? = some u := by
      match o, ho with
      | k + 20, h => exact absurd h (by omega)
      | 0, _ | 1, _ | 2, _ | 3, _ | 4, _ | 5, _ | 6, _ | 7, _ | 8, _ | 9, _ | 10, _ | 11, _ | 12, _ | 13, _ | 14, _ | 15, _ | 16, _ | 17, _ | 18, _ | 19, _ => exact ⟨_, rfl, rfl⟩
    obtain ⟨u, hu1, hu2⟩ := hu
    have hc := (h1 1 o u hu1).2
    rw [hu2]
    simpa [World.cell?, h3] using hc
  · rw [Array.getElem?_eq_none (by omega), Array.getElem?_eq_none (by
      have : (Lib.pow10Tab.map fun z => Value.int .u64 z).toArray.size = 20 := rfl
      omega)]
theorem itoa_ok (n : Int) (h0 : -9223372036854775808 ≤ n) (h1 : n ≤ 9223372036854775807) : SatP Tryd.prog 20 [.int .i64 n] (.str (told n)) [] := by
  refine ⟨⟨_, Tryd.func20, by kernel_rfl, by kernel_rfl⟩, rfl, fun x hx => by simp at hx, fun w hg vals hl hv => ?_⟩
  match vals, hl with
  | [v], _ =>
    have hv0 : v = .int .i64 n := hv 0 _ _ rfl rfl
    subst hv0
    refine (Tryd.strconv_Itoa n h0 h1 w (good_tab hg)).mono fun e w' he => ?_
    obtain ⟨rfl, k, os, rfl⟩ := he
    have hf : Frm (botEnv w) w := Frm.refl (botEnv w) ⟨fun b o u hu => ⟨(hg.1 b o u hu).1, fun h => h, (hg.1 b o u hu).2⟩, hg.2⟩
    have hf2 : Frm (botEnv w) (Sort.grow (w.drewN k) os) := hf.step rfl rfl rfl (by simp [Sort.grow, World.drewN]) fun b hb => .inl (by
      show (w.heap ++ os)[b]? = w.heap[b]?
      exact Array.getElem?_append_left hb)
    exact ⟨_, Gh.nil, rfl, ⟨hf2, fun T e rows h => by simp [Hp] at h, fun T cs h => by simp [Hp] at h, fun T h => by simp [Hp, Ent.live] at h⟩, fun _ _ => rfl, rfl⟩
end Go.Proofs.YtchkbgekmoileaaDoor
