/- Rows that a call owns: storing into one, clearing its tail, cutting it short. No conditions. -/
import Derived.Test.YtnbcfpjalgfikaaGreatDoorOwn
import Derived.Shelf.Abstract
namespace Go.Proofs.YtnbcfpjalgfikaaGreatDoor
open Go.RowKit
set_option linter.unusedVariables false
set_option linter.unusedSimpArgs false

section
variable {α : Type} {w w' : World} {B : Nat} {t : TypeId} {sz : Nat} {enc : α → Nat → Value} {A : Option Addr} {n c : Nat} {xs : List α} {P : Program}

/-- a row that is known by its first elements, whatever else lies behind them -/
theorem Own.row {g : Nat} (h : Own w B t sz enc (some ⟨g, 0, none⟩) n c xs) : ∃ cur, Blk w g t cur ∧ B ≤ g ∧ n ≤ c ∧ c ≤ maxLen ∧ cur.size = c * sz ∧ cur.toList.take (n * sz) = xs.flatMap (encL sz enc) := by
  rcases h.2.2 with ⟨hv, hn⟩ | ⟨g', cap, cur, hv, hB, hh, hc1, hc2, hs, ht⟩
  · cases hv
  · injection hv with h1 h2 h3
    injection h1 with h1
    injection h1 with h1
    subst h1 h3
    exact ⟨cur, hh, hB, hc1, hc2, hs, ht⟩
theorem Own.of_row {g : Nat} {cur : Array Value} (hb : Blk w g t cur) (hB : B ≤ g) (hn : n ≤ c) (hc : c ≤ maxLen) (hs : cur.size = c * sz) (hl : xs.length = n) (ht : cur.toList.take (n * sz) = xs.flatMap (encL sz enc)) : Own w B t sz enc (some ⟨g, 0, none⟩) n c xs :=
  ⟨hl, by rw [flat_length, hl], .inr ⟨g, c, cur, rfl, hB, hb, hn, hc, hs, ht⟩⟩
theorem flat_take (xs : List α) (i : Nat) : (xs.take i).flatMap (encL sz enc) = (xs.flatMap (encL sz enc)).take (i * sz) := by
  induction xs generalizing i with
  | nil => simp
  | cons x xs ih =>
    cases i with
    | zero => simp
    | succ i =>
      rw [List.take_succ_cons, List.flatMap_cons, List.flatMap_cons, ih, List.take_append, encL_length, Nat.succ_mul, Nat.add_sub_cancel, List.take_of_length_le (l := encL sz enc x) (by rw [encL_length]; omega)]
/-- a shorter slice of the same row -/
theorem Own.cut {g : Nat} (h : Own w B t sz enc (some ⟨g, 0, none⟩) n c xs) {i : Nat} (hi : i ≤ n) : Own w B t sz enc (some ⟨g, 0, none⟩) i c (xs.take i) := by
  obtain ⟨cur, hb, hB, hn, hc, hs, ht⟩ := h.row
  have hl := h.1
  refine Own.of_row hb hB (by omega) hc hs (by simp; omega) ?_
  rw [flat_take, ← ht, List.take_take, Nat.min_eq_left (Nat.mul_le_mul_right sz hi)]
theorem Own.frozen {g : Nat} (h : Own w B t sz enc (some ⟨g, 0, none⟩) n c xs) (i : Nat) : w.frozen? ⟨g, i, none⟩ = false := by
  obtain ⟨cur, hb, _⟩ := h.row; exact hb.frozen i
end


/-- append of one element that lies in a block of its own, in a region that draws its order -/
theorem wp_push {α : Type} {w : World} {B : Nat} {t : TypeId} {sz : Nat} {enc : α → Nat → Value} {A : Option Addr} {n c : Nat} {xs : List α} {P : Program} {o : Oper} {a : Act} {K : Act → World → Prop} {Q : Exit → Act → World → Prop} (s x : Operand) (ts : TypeId)
    (ho : o.op = .call { callee := .builtin .append, args := #[s, x], argTypes := #[ts, ts] }) (bytes : Nat) (ht : P.underlying ts = some (.slice t)) (hi : EInfo P t sz bytes)
    (hs : a.eval s = .slice A n c) (hown : Own w B t sz enc A n c xs) (y : α) (g0 : Nat) (hx : a.eval x = .slice (some ⟨g0, 0, none⟩) 1 1) (hb : Blk w g0 t (encL sz enc y).toArray)
    (h1 : ∀ j, j < sz → (enc y j).oneCell' = true) (hn : n + 1 < 1000000) (hbytes : bytes ≤ 1000000) (hB : B ≤ w.heap.size)
    (h : ∀ g cap w', Own w' B t sz enc (some ⟨g, 0, none⟩) (n + 1) cap (xs ++ [y]) → Mod (fun k => blkOf A = some k) w w' → (blkOf A = some g ∨ g = w.heap.size) → g < w'.heap.size →
      K (a.put o.dst (.slice (some ⟨g, 0, none⟩) (n + 1) cap)) w') : Oper.wp P o a w K Q := by
  obtain ⟨i, z, hi0, hz, hsz, hby, hzs, h0⟩ := hi
  refine wp_append_lies w s x ts ho B t i z sz bytes ht hi0 hz hsz hby hzs h0 _ n _ hs hown.2 ⟨g0, 0, none⟩ 1 1 (encL sz enc y) hx (by rw [encL_length]; omega) ?_ ?_ (by omega) (by unfold maxLen; omega) ?_ hB _ rfl ?_
  · have := World.news_of_block hb
    simpa using this
  · intro u hu
    simp only [encL, List.mem_map, List.mem_range] at hu
    obtain ⟨j, hj, rfl⟩ := hu
    exact h1 j hj
  · have : (n + 1) * bytes ≤ 1000000 * 1000000 := Nat.mul_le_mul (by omega) hbytes
    omega
  · intro g cap w' hown' hg hat hlt
    rw [ownBlock_eq] at hg hat
    refine h g cap w' ⟨by simp [hown.1], by simpa using hown'⟩ ?_ hat hlt
    exact (Mod.refl (fun k => blkOf A = some k) w).grown hg (fun k e => .inl e)

end Go.Proofs.YtnbcfpjalgfikaaGreatDoor
