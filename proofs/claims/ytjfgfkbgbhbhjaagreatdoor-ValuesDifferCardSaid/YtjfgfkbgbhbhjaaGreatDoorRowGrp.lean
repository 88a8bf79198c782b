/- Several texts in one. (1) Rows that a call owns: storing into one, clearing its tail, cutting it short. No conditions. (2) Rows that a call owns: striking one element out. No conditions. (3) Append of a slice's elements to a row of the call's own, in a region that draws its order. Conditions: lengths below 10^6. -/
import Derived.Test.YtjfgfkbgbhbhjaaGreatDoorOwn
import Derived.Shelf.Abstract

namespace Go.Proofs.YtjfgfkbgbhbhjaaGreatDoor
open Go.RowKit
set_option linter.unusedVariables false
set_option linter.unusedSimpArgs false

section
variable {α : Type} {w w' : World} {B : Nat} {t : TypeId} {sz : Nat} {enc : α → Nat → Value} {A : Option Addr} {n c : Nat} {xs : List α} {P : Program}

/-- a row that is known by its first elements, whatever else lies behind them -/
theorem Own.row {g : Nat} (h : Own w B t sz enc (some ⟨g, 0, none⟩) n c xs) : ∃ cur, Blk w g t cur ∧ B ≤ g ∧ n ≤ c ∧ c ≤ maxLen ∧ cur.size = c * sz ∧ cur.toList.take (n * sz) = xs.flatMap (encL sz enc) := by
  rcases h.2.2 with ⟨hv, hn⟩ | ⟨g', cap, cur, hv, hB, hh, hc1, hc2, hs, ht⟩
  · cases hv
  · injection hv with h1 h2 h3
    injection h1 with h1
    injection h1 with h1
    subst h1 h3
    exact ⟨cur, hh, hB, hc1, hc2, hs, ht⟩
theorem Own.of_row {g : Nat} {cur : Array Value} (hb : Blk w g t cur) (hB : B ≤ g) (hn : n ≤ c) (hc : c ≤ maxLen) (hs : cur.size = c * sz) (hl : xs.length = n) (ht : cur.toList.take (n * sz) = xs.flatMap (encL sz enc)) : Own w B t sz enc (some ⟨g, 0, none⟩) n c xs :=
  ⟨hl, by rw [flat_length, hl], .inr ⟨g, c, cur, rfl, hB, hb, hn, hc, hs, ht⟩⟩
theorem flat_take (xs : List α) (i : Nat) : (xs.take i).flatMap (encL sz enc) = (xs.flatMap (encL sz enc)).take (i * sz) := by
  induction xs generalizing i with
  | nil => simp
  | cons x xs ih =>
    cases i with
    | zero => simp
    | succ i =>
      rw [List.take_succ_cons, List.flatMap_cons, List.flatMap_cons, ih, List.take_append, encL_length, Nat.succ_mul, Nat.add_sub_cancel, List.take_of_length_le (l := encL sz enc x) (by rw [encL_length]; omega)]
/-- a shorter slice of the same row -/
theorem Own.cut {g : Nat} (h : Own w B t sz enc (some ⟨g, 0, none⟩) n c xs) {i : Nat} (hi : i ≤ n) : Own w B t sz enc (some ⟨g, 0, none⟩) i c (xs.take i) := by
  obtain ⟨cur, hb, hB, hn, hc, hs, ht⟩ := h.row
  have hl := h.1
  refine Own.of_row hb hB (by omega) hc hs (by simp; omega) ?_
  rw [flat_take, ← ht, List.take_take, Nat.min_eq_left (Nat.mul_le_mul_right sz hi)]
theorem Own.frozen {g : Nat} (h : Own w B t sz enc (some ⟨g, 0, none⟩) n c xs) (i : Nat) : w.frozen? ⟨g, i, none⟩ = false := by
  obtain ⟨cur, hb, _⟩ := h.row; exact hb.frozen i
theorem Blk.setRow {g : Nat} {cur cur' : Array Value} (h : Blk w g t cur) : Blk (w.setRow g cur') g t cur' := setRow_heap w g cur cur' t (0, 0) h
theorem Mod.setRow {S : Nat → Prop} {a : World} {g : Nat} {cur : Array Value} (h : Mod S a w) (hg : S g ∨ a.heap.size ≤ g) : Mod S a (w.setRow g cur) := by
  refine ⟨h.os, h.tape, h.output, by simpa [World.setRow] using h.size, fun i hi hs => ?_⟩
  rw [← h.block i hi hs]
  have hne : i ≠ g := by
    rintro rfl
    rcases hg with hg | hg
    · exact hs hg
    · omega
  simp [World.setRow, Array.getElem?_modify, hne.symm]

/-- clear of a slice of nothing -/
theorem run_clear_none (w : World) {ts t ty : TypeId} (ht : P.underlying ts = some (.slice t)) (a : Option Addr) (c : Nat) : (Builtin.clear_ #[ts] ty #[.slice a 0 c]).run P w = .ok (.tuple #[]) w := by
  cases a <;> simp [Builtin.clear_, run_underlying ht]
/-- clear of a part of a block: what lies ahead of it stays -/
theorem run_clear_part {g : Nat} {cur : Array Value} (hb : Blk w g t cur) {ts : TypeId} (ht : P.underlying ts = some (.slice t)) {z : Value} (hz : (zeroValue t).run P w = .ok z w) (h1 : ∀ v ∈ z.cells.toList, v.oneCell' = true) (hzs : z.cells.size = sz) (hsz : 0 < sz) (o m c : Nat) (ho : o + m * sz ≤ cur.size) :
    ∃ cur', (∀ ty, (Builtin.clear_ #[ts] ty #[.slice (some ⟨g, o, none⟩) m c]).run P w = .ok (.tuple #[]) (w.setRow g cur')) ∧ cur'.size = cur.size ∧ cur'.toList.take o = cur.toList.take o := by
  have hlen : (Builtin.zeroCells z.cells m).toList.length = m * sz := by simp [Builtin.zeroCells, hzs]
  have hst := run_storeCells_at (P := P) g o t (Builtin.zeroCells z.cells m).toList 0 cur w hb (by rw [hlen]; omega) (by
    intro v hv
    simp only [Builtin.zeroCells, Array.toList_map, List.mem_map] at hv
    obtain ⟨i, _, rfl⟩ := hv
    have hi : i % z.cells.size < z.cells.size := Nat.mod_lt _ (by omega)
    rw [getElem!_pos z.cells _ hi]
    exact h1 _ (by simp))
  simp only [Nat.add_zero] at hst
  cases m with
  | zero =>
    refine ⟨cur, fun ty => ?_, rfl, rfl⟩
    rw [run_clear_none w ht, setRow_self w g cur t (0, 0) hb]
  | succ m =>
    refine ⟨(cur.toList.take o ++ (Builtin.zeroCells z.cells (m + 1)).toList ++ cur.toList.drop (o + (Builtin.zeroCells z.cells (m + 1)).toList.length)).toArray, fun ty => ?_, ?_, ?_⟩
    · simp [Builtin.clear_, run_underlying ht, hz, hst]
    · have hl : cur.toList.length = cur.size := by simp
      simp only [List.size_toArray, List.length_append, List.length_take, List.length_drop, hlen, hl]
      omega
    · rw [List.append_assoc, List.take_append_of_le_length (by simp; omega), List.take_take, Nat.min_self]
/-- clear of the tail of a row that the call owns -/
theorem Own.clear_tail {g : Nat} (h : Own w B t sz enc (some ⟨g, 0, none⟩) n c xs) {ts : TypeId} (ht : P.underlying ts = some (.slice t)) {z : Value} (hz : (zeroValue t).run P w = .ok z w) (h1 : ∀ v ∈ z.cells.toList, v.oneCell' = true) (hzs : z.cells.size = sz) (hsz : 0 < sz) (i o c' : Nat) (hi : i < n) (ho : o = i * sz) :
    ∃ w', (∀ ty, (Builtin.clear_ #[ts] ty #[.slice (some ⟨g, o, none⟩) (n - i) c']).run P w = .ok (.tuple #[]) w') ∧ Own w' B t sz enc (some ⟨g, 0, none⟩) i c (xs.take i) ∧ Only g w w' ∧ w'.heap.size = w.heap.size := by
  subst ho
  obtain ⟨cur, hb, hB, hn, hc, hs, htk⟩ := h.row
  have hl := h.1
  have hle : i * sz + (n - i) * sz ≤ cur.size := by
    rw [← Nat.add_mul, hs]; exact Nat.mul_le_mul_right sz (by omega)
  obtain ⟨cur', hr, hs', ht'⟩ := run_clear_part (P := P) hb ht hz h1 hzs hsz (i * sz) (n - i) c' hle
  refine ⟨_, hr, Own.of_row hb.setRow hB (by omega) hc (by omega) (by simp; omega) ?_, (Mod.refl _ _).setRow (.inl rfl), by simp [World.setRow]⟩
  rw [ht', flat_take, ← htk, List.take_take, Nat.min_eq_left (Nat.mul_le_mul_right sz (by omega))]
end


/-- append of one element that lies in a block of its own, in a region that draws its order -/
theorem wp_push {α : Type} {w : World} {B : Nat} {t : TypeId} {sz : Nat} {enc : α → Nat → Value} {A : Option Addr} {n c : Nat} {xs : List α} {P : Program} {o : Oper} {a : Act} {K : Act → World → Prop} {Q : Exit → Act → World → Prop} (s x : Operand) (ts : TypeId)
    (ho : o.op = .call { callee := .builtin .append, args := #[s, x], argTypes := #[ts, ts] }) (bytes : Nat) (ht : P.underlying ts = some (.slice t)) (hi : EInfo P t sz bytes)
    (hs : a.eval s = .slice A n c) (hown : Own w B t sz enc A n c xs) (y : α) (g0 : Nat) (hx : a.eval x = .slice (some ⟨g0, 0, none⟩) 1 1) (hb : Blk w g0 t (encL sz enc y).toArray)
    (h1 : ∀ j, j < sz → (enc y j).oneCell' = true) (hn : n + 1 < 1000000) (hbytes : bytes ≤ 1000000) (hB : B ≤ w.heap.size)
    (h : ∀ g cap w', Own w' B t sz enc (some ⟨g, 0, none⟩) (n + 1) cap (xs ++ [y]) → Mod (fun k => blkOf A = some k) w w' → (blkOf A = some g ∨ g = w.heap.size) → g < w'.heap.size →
      K (a.put o.dst (.slice (some ⟨g, 0, none⟩) (n + 1) cap)) w') : Oper.wp P o a w K Q := by
  obtain ⟨i, z, hi0, hz, hsz, hby, hzs, h0⟩ := hi
  refine wp_append_lies w s x ts ho B t i z sz bytes ht hi0 hz hsz hby hzs h0 _ n _ hs hown.2 ⟨g0, 0, none⟩ 1 1 (encL sz enc y) hx (by rw [encL_length]; omega) ?_ ?_ (by omega) (by unfold maxLen; omega) ?_ hB _ rfl ?_
  · have := World.news_of_block hb
    simpa using this
  · intro u hu
    simp only [encL, List.mem_map, List.mem_range] at hu
    obtain ⟨j, hj, rfl⟩ := hu
    exact h1 j hj
  · have : (n + 1) * bytes ≤ 1000000 * 1000000 := Nat.mul_le_mul (by omega) hbytes
    omega
  · intro g cap w' hown' hg hat hlt
    rw [ownBlock_eq] at hg hat
    refine h g cap w' ⟨by simp [hown.1], by simpa using hown'⟩ ?_ hat hlt
    exact (Mod.refl (fun k => blkOf A = some k) w).grown hg (fun k e => .inl e)

end Go.Proofs.YtjfgfkbgbhbhjaaGreatDoor

namespace Go.Proofs.YtjfgfkbgbhbhjaaGreatDoor
open Go.RowKit
set_option linter.unusedVariables false
set_option linter.unusedSimpArgs false

theorem take_drop_flat {α : Type} {sz : Nat} {enc : α → Nat → Value} (xs : List α) (i : Nat) : (xs.drop i).flatMap (encL sz enc) = (xs.flatMap (encL sz enc)).drop (i * sz) := by
  induction xs generalizing i with
  | nil => simp
  | cons x xs ih =>
    cases i with
    | zero => simp
    | succ i =>
      rw [List.drop_succ_cons, List.flatMap_cons, ih, List.drop_append, encL_length, Nat.succ_mul, Nat.add_sub_cancel, List.drop_of_length_le (l := encL sz enc x) (by rw [encL_length]; omega), List.nil_append]

/-- append(s[:k], s[k+1:]...) in a row that the call owns: the row then holds the others, and its last element twice -/
theorem Own.delete {α : Type} {w : World} {B : Nat} {t : TypeId} {sz bytes : Nat} {enc : α → Nat → Value} {n c : Nat} {xs : List α} {P : Program} {g : Nat} (h : Own w B t sz enc (some ⟨g, 0, none⟩) n c xs) {ts : TypeId} (ht : P.underlying ts = some (.slice t)) (hi : EInfo P t sz bytes)
    (h1 : ∀ x ∈ xs, ∀ j, j < sz → (enc x j).oneCell' = true) (k : Nat) (hk : k < n) (o m c' : Nat) (ho : m = 0 ∨ o = (k + 1) * sz) (hm : m = n - (k + 1)) (a0 : Addr) (ha : m = 0 ∨ a0 = ⟨g, o, none⟩) :
    ∃ w', (∀ ty, (Builtin.append_ #[ts, ts] ty #[.slice (some ⟨g, 0, none⟩) k c, .slice (some a0) m c']).run P w = .ok (.slice (some ⟨g, 0, none⟩) (n - 1) c) w') ∧ Own w' B t sz enc (some ⟨g, 0, none⟩) n c (xs.eraseIdx k ++ xs.drop (n - 1)) ∧ Only g w w' := by
  obtain ⟨i, z, hi0, hz, hsz, hby, hzs, h0⟩ := hi
  obtain ⟨cur, hb, hB, hn, hc, hs, htk⟩ := h.row
  have hl := h.1
  subst hsz
  have hnl : ((xs.drop (k + 1)).flatMap (encL i.size enc)).length = m * i.size := by rw [flat_length, List.length_drop, hm, hl]
  have hroom : k + m ≤ c := by omega
  have hcl : cur.toList.length = c * i.size := by simpa using hs
  have hfit : k * i.size + ((xs.drop (k + 1)).flatMap (encL i.size enc)).length ≤ cur.size := by
    rw [hnl, hs, ← Nat.add_mul]; exact Nat.mul_le_mul_right _ hroom
  have hr := fun ty => run_append_room (P := P) w ts ty t i ht hi0 g k c cur hb a0 m c' ((xs.drop (k + 1)).flatMap (encL i.size enc)) hnl (by
    intro j u hu
    have hj : j < m * i.size := by rw [← hnl]; exact (List.getElem?_eq_some_iff.1 hu).1
    have hm0 : 0 < m := by
      rcases Nat.eq_zero_or_pos m with e | e
      · rw [e] at hj; simp at hj
      · exact e
    obtain rfl : a0 = ⟨g, o, none⟩ := by rcases ha with e | e; (· omega); exact e
    obtain rfl : o = (k + 1) * i.size := by rcases ho with e | e; (· omega); exact e
    have hadd : (⟨g, (k + 1) * i.size, none⟩ : Addr).add j = ⟨g, (k + 1) * i.size + j, none⟩ := by unfold Addr.add; split <;> simp_all
    rw [hadd, hb.cell]
    rw [take_drop_flat, List.getElem?_drop, ← htk, List.getElem?_take] at hu
    split at hu
    · simpa using hu
    · cases hu) (by
    intro u hu
    simp only [List.mem_flatMap, encL, List.mem_map, List.mem_range] at hu
    obtain ⟨x, hx, j, hj, rfl⟩ := hu
    exact h1 x ((List.drop_sublist _ _).subset hx) j hj) hroom hfit
  refine ⟨_, fun ty => by rw [hr ty]; congr 2; omega, ?_, (Mod.refl _ _).setRow (.inl rfl)⟩
  have hkn : k * i.size ≤ n * i.size := Nat.mul_le_mul_right _ (by omega)
  have hnc : n * i.size ≤ c * i.size := Nat.mul_le_mul_right _ hn
  have e0 : k * i.size + m * i.size = (n - 1) * i.size := by rw [← Nat.add_mul]; congr 1; omega
  refine Own.of_row hb.setRow hB hn hc ?_ ?_ ?_
  · simp only [List.size_toArray, List.length_append, List.length_take, List.length_drop, hnl, hcl]; omega
  · rw [List.length_append, List.length_eraseIdx, List.length_drop, hl, if_pos hk]; omega
  · have hle : (n - 1) * i.size ≤ n * i.size := Nat.mul_le_mul_right _ (by omega)
    have e1 : cur.toList.take (k * i.size) = (xs.take k).flatMap (encL i.size enc) := by rw [flat_take, ← htk, List.take_take, Nat.min_eq_left hkn]
    have e2 : (xs.eraseIdx k).flatMap (encL i.size enc) = cur.toList.take (k * i.size) ++ (xs.drop (k + 1)).flatMap (encL i.size enc) := by
      rw [List.eraseIdx_eq_take_drop_succ, List.flatMap_append, e1]
    rw [List.flatMap_append, e2]
    have e3 : (xs.drop (n - 1)).flatMap (encL i.size enc) = (cur.toList.drop ((n - 1) * i.size)).take (n * i.size - (n - 1) * i.size) := by
      rw [take_drop_flat, ← htk, List.drop_take]
    have hln : (cur.toList.take (k * i.size) ++ (xs.drop (k + 1)).flatMap (encL i.size enc)).length = (n - 1) * i.size := by
      rw [List.length_append, hnl, List.length_take, hcl]; omega
    rw [e3, hnl, e0]
    simp only [List.toList_toArray]
    rw [List.take_append, hln, List.take_of_length_le (l := cur.toList.take (k * i.size) ++ (xs.drop (k + 1)).flatMap (encL i.size enc)) (by rw [hln]; exact hle)]

/-- an append whose run is known -/
theorem wpList_append_by {P : Program} {w w' : World} {ops : Array Oper} {rest : List Oper} {o : Oper} {a : Act} {Q : Exit → Act → World → Prop} (hgd : o.guard = none) (s x : Operand) (t : TypeId)
    (ho : o.op = .call { callee := .builtin .append, args := #[s, x], argTypes := #[t, t] }) {v1 v2 v : Value} (hs : a.eval s = v1) (hx : a.eval x = v2) (hr : ∀ ty, (Builtin.append_ #[t, t] ty #[v1, v2]).run P w = .ok v w')
    (h : wpList P ops Q rest (a.put o.dst v) w') : wpList P ops Q (o :: rest) a w := by
  refine wpList_plain hgd fun K hK => ?_
  unfold Oper.wp execOp
  simp only [ho, resolve, invoke, builtin, Sem.run_bind, Sem.run_pure, Result.andThen_ok, List.map_toArray, List.map_cons, List.map_nil, hs, hx, hr]
  exact hK _ _ h

end Go.Proofs.YtjfgfkbgbhbhjaaGreatDoor

namespace Go.Proofs.YtjfgfkbgbhbhjaaGreatDoor
open Go.RowKit
set_option linter.unusedVariables false
set_option linter.unusedSimpArgs false

/-- append of a slice's elements, in a region that draws its order -/
theorem wp_pushAll {α : Type} {w : World} {B : Nat} {t : TypeId} {sz : Nat} {enc : α → Nat → Value} {A : Option Addr} {n c : Nat} {xs : List α} {P : Program} {o : Oper} {a : Act} {K : Act → World → Prop} {Q : Exit → Act → World → Prop} (s x : Operand) (ts : TypeId)
    (ho : o.op = .call { callee := .builtin .append, args := #[s, x], argTypes := #[ts, ts] }) (bytes : Nat) (ht : P.underlying ts = some (.slice t)) (hi : EInfo P t sz bytes)
    (hs : a.eval s = .slice A n c) (hown : Own w B t sz enc A n c xs) (ys : List α) (g0 o0 m cm : Nat) (hx : a.eval x = .slice (some ⟨g0, o0, none⟩) m cm) (hy : Sl w t sz enc (some ⟨g0, o0, none⟩) m ys) (hm : 0 < m)
    (h1 : ∀ y ∈ ys, ∀ j, j < sz → (enc y j).oneCell' = true) (hn : n + m < 1000000) (hbytes : bytes ≤ 1000000) (hB : B ≤ w.heap.size)
    (h : ∀ g cap w', Own w' B t sz enc (some ⟨g, 0, none⟩) (n + m) cap (xs ++ ys) → Mod (fun k => blkOf A = some k) w w' → (blkOf A = some g ∨ g = w.heap.size) → g < w'.heap.size →
      K (a.put o.dst (.slice (some ⟨g, 0, none⟩) (n + m) cap)) w') : Oper.wp P o a w K Q := by
  obtain ⟨i, z, hi0, hz, hsz, hby, hzs, h0⟩ := hi
  have hml := hy.1
  refine wp_append_lies w s x ts ho B t i z sz bytes ht hi0 hz hsz hby hzs h0 _ n _ hs hown.2 ⟨g0, o0, none⟩ m cm (ys.flatMap (encL sz enc)) hx (by rw [flat_length, hml]) (hy.flat hm h0) ?_ hm (by unfold maxLen; omega) ?_ hB _ rfl ?_
  · intro u hu
    simp only [List.mem_flatMap, encL, List.mem_map, List.mem_range] at hu
    obtain ⟨y, hy', j, hj, rfl⟩ := hu
    exact h1 y hy' j hj
  · have : (n + m) * bytes ≤ 1000000 * 1000000 := Nat.mul_le_mul (by omega) hbytes
    omega
  · intro g cap w' hown' hg hat hlt
    rw [ownBlock_eq] at hg hat
    refine h g cap w' ⟨by simp [hown.1, hml], by rw [List.flatMap_append]; exact hown'⟩ ?_ hat hlt
    exact (Mod.refl (fun k => blkOf A = some k) w).grown hg (fun k e => .inl e)

end Go.Proofs.YtjfgfkbgbhbhjaaGreatDoor
