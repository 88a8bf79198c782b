/- One change at a path (the program): value.changed. Conditions: a value that is right, rows of at most 900; a path that is right. -/
import Derived.Test.YtjfgfkbgbhbhjaaGreatDoorChgd
import Derived.Deep.RegionHeld3
import Derived.Deep.CutBlock
namespace Go.Proofs.YtjfgfkbgbhbhjaaGreatDoor
open Go.RowKit
set_option linter.unusedVariables false
set_option linter.unusedSimpArgs false

theorem Blk.copy6 {W : World} {g : Nat} {T : TypeId} {x1 x2 x3 x4 x5 x6 : Value} (hb : Blk W g T #[x1, x2, x3, x4, x5, x6]) (u1 u2 u3 u4 u5 u6 : Value) : Blk ((((((W.setCell ⟨g, 0, none⟩ u1).setCell ⟨g, 1, none⟩ u2).setCell ⟨g, 2, none⟩ u3).setCell ⟨g, 3, none⟩ u4).setCell ⟨g, 4, none⟩ u5).setCell ⟨g, 5, none⟩ u6) g T #[u1, u2, u3, u4, u5, u6] := by
  simpa using (((((hb.set 0 u1).set 1 u2).set 2 u3).set 3 u4).set 4 u5).set 5 u6
theorem Only.cell6 (w : World) (g : Nat) (u1 u2 u3 u4 u5 u6 : Value) : Only g w ((((((w.setCell ⟨g, 0, none⟩ u1).setCell ⟨g, 1, none⟩ u2).setCell ⟨g, 2, none⟩ u3).setCell ⟨g, 3, none⟩ u4).setCell ⟨g, 4, none⟩ u5).setCell ⟨g, 5, none⟩ u6) :=
  (((((Only.set (Mod.refl _ _) _ _).set _ _).set _ _).set _ _).set _ _).set _ _
theorem Sl.tail {α : Type} {w : World} {t : TypeId} {sz : Nat} {enc : α → Nat → Value} {g o n : Nat} {x : α} {xs : List α} (h : Sl w t sz enc (some ⟨g, o, none⟩) (n + 1) (x :: xs)) : Sl w t sz enc (some ⟨g, o + sz, none⟩) n xs := by
  refine ⟨by simpa using h.1, fun h0 => ?_⟩
  obtain ⟨g', o', hA, ht, hc⟩ := h.2 (by omega)
  injection hA with hA
  injection hA with hA1 hA2
  subst hA1 hA2
  refine ⟨_, _, rfl, ht, fun i hi j hj => ?_⟩
  have := hc (i + 1) (by simpa using hi) j hj
  simp only [List.getElem_cons_succ] at this
  rw [← this]
  congr 2
  rw [Nat.succ_mul]
  omega

end Go.Proofs.YtjfgfkbgbhbhjaaGreatDoor
