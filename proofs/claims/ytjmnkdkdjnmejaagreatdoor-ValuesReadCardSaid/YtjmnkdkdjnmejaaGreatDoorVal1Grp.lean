/- Several texts in one. (1) Values as trees, in memory. No conditions. (2) Rows that a call owns: storing into one, clearing its tail, cutting it short. No conditions. (3) Rows of values that a call is building: each of the row's elements a tree that does not lie in the row itself. No conditions. (4) What the functions of the stream of numbers hand out: numbers in their ranges, and which memory they turn. Conditions: the stream lies in a block of its own and has been asked fewer than 2^62 times. (5) What the maker of limits hands out: a limit of that key with numbers of modest size. Conditions: as for the stream. -/
import Derived.Test.YtjmnkdkdjnmejaaGreatDoorBaseGrp
import Derived.Shelf.Abstract

namespace Go.Proofs.YtjmnkdkdjnmejaaGreatDoor
open Go.RowKit
set_option linter.unusedVariables false
set_option linter.unusedSimpArgs false

/-- a value as its cells say -/
structure VA where
  kind : Int
  flag : Bool
  num : Int
  words : ByteArray
  la : Option Addr
  ln : Nat
  lc : Nat
  ma : Option Addr
  mn : Nat
  mc : Nat
def VA.enc (x : VA) : Nat → Value
  | 0 => .int .i64 x.kind
  | 1 => .bool x.flag
  | 2 => .int .i64 x.num
  | 3 => .string x.words
  | 4 => .slice x.la x.ln x.lc
  | 5 => .slice x.ma x.mn x.mc
  | _ => .nilFunc
def VA.cells (x : VA) : Array Value := #[.int .i64 x.kind, .bool x.flag, .int .i64 x.num, .string x.words, .slice x.la x.ln x.lc, .slice x.ma x.mn x.mc]
abbrev VA.val (x : VA) : Value := .agg #[.int .i64 x.kind, .bool x.flag, .int .i64 x.num, .string x.words, .slice x.la x.ln x.lc, .slice x.ma x.mn x.mc]
theorem VA.one (x : VA) (j : Nat) (hj : j < 6) : (x.enc j).oneCell' = true := by
  obtain rfl | rfl | rfl | rfl | rfl | rfl : j = 0 ∨ j = 1 ∨ j = 2 ∨ j = 3 ∨ j = 4 ∨ j = 5 := by omega
  all_goals rfl
structure MA where
  name : ByteArray
  v : VA
def MA.enc (m : MA) : Nat → Value
  | 0 => .string m.name
  | j + 1 => m.v.enc j
abbrev MA.val (m : MA) : Value := .agg #[.string m.name, .int .i64 m.v.kind, .bool m.v.flag, .int .i64 m.v.num, .string m.v.words, .slice m.v.la m.v.ln m.v.lc, .slice m.v.ma m.v.mn m.v.mc]
theorem MA.one (x : MA) (j : Nat) (hj : j < 7) : (x.enc j).oneCell' = true := by
  obtain rfl | rfl | rfl | rfl | rfl | rfl | rfl : j = 0 ∨ j = 1 ∨ j = 2 ∨ j = 3 ∨ j = 4 ∨ j = 5 ∨ j = 6 := by omega
  all_goals rfl
theorem einfo_val : EInfo Tryz.prog 30 6 88 := EInfo.of (z := .agg #[.int .i64 0, .bool false, .int .i64 0, .string ⟨#[]⟩, .slice none 0 0, .slice none 0 0]) (by kernel_rfl) rfl (by decide)

/-- a row that lies in a block of G -/
def Row {α : Type} (w : World) (G : Nat → Prop) (t : TypeId) (sz : Nat) (enc : α → Nat → Value) (A : Option Addr) (n : Nat) (xs : List α) : Prop :=
  xs.length = n ∧ (0 < n → ∃ g o, A = some ⟨g, o, none⟩ ∧ G g ∧ TB w g t ∧ ∀ i (h : i < xs.length) j, j < sz → w.cell? ⟨g, o + i * sz + j, none⟩ = some (enc xs[i] j))
section
variable {α : Type} {w w' : World} {G G' : Nat → Prop} {t : TypeId} {sz : Nat} {enc : α → Nat → Value} {A : Option Addr} {n c : Nat} {xs : List α}
theorem Row.nil : Row w G t sz enc A 0 ([] : List α) := ⟨rfl, fun h => absurd h (by omega)⟩
theorem Row.sl (h : Row w G t sz enc A n xs) : Sl w t sz enc A n xs := ⟨h.1, fun h0 => by
  obtain ⟨g, o, h1, _, h2, h3⟩ := h.2 h0
  exact ⟨g, o, h1, h2, h3⟩⟩
theorem Row.mod {S : Nat → Prop} (h : Row w G t sz enc A n xs) (hm : Mod S w w') (hs : ∀ g, G g → TB w g t → ¬ S g) : Row w' G t sz enc A n xs :=
  ⟨h.1, fun h0 => by
    obtain ⟨g, o, h1, hG, h2, h3⟩ := h.2 h0
    exact ⟨g, o, h1, hG, h2.mod hm (hs g hG h2), fun i hi j hj => (hm.cell (p := ⟨g, o + i * sz + j, none⟩) h2.lt (hs g hG h2)).trans (h3 i hi j hj)⟩⟩
theorem Row.imp (h : Row w G t sz enc A n xs) (hG : ∀ g, G g → g < w.heap.size → G' g) : Row w G' t sz enc A n xs :=
  ⟨h.1, fun h0 => by
    obtain ⟨g, o, h1, h4, h2, h3⟩ := h.2 h0
    exact ⟨g, o, h1, hG g h4 h2.lt, h2, h3⟩⟩
theorem Own.row' {B : Nat} (h : Own w B t sz enc A n c xs) (hG : ∀ g, blkOf A = some g → B ≤ g → G g) : Row w G t sz enc A n xs :=
  ⟨h.1, fun h0 => by
    obtain ⟨g, hA, hB, _⟩ := h.form h0
    obtain ⟨g', o, h1, h2, h3⟩ := h.sl.2 h0
    refine ⟨g', o, h1, hG g' ?_ ?_, h2, h3⟩
    · rw [h1]; rfl
    · rw [hA] at h1; injection h1 with h1; injection h1 with h1 _; omega⟩
end

/-- the value x stands in memory as the tree v, no deeper than d, its rows in blocks of G -/
def Tree (w : World) (G : Nat → Prop) : Nat → VA → VT → Prop
  | 0, _, _ => False
  | d + 1, x, v => ∃ vs ps, v = .mk x.kind x.flag x.num x.words vs ps ∧
      (∃ xs : List VA, Row w G 30 6 VA.enc x.la x.ln xs ∧ xs.length = vs.length ∧ ∀ i (h : i < xs.length) (h' : i < vs.length), Tree w G d xs[i] vs[i]) ∧
      (∃ ms : List MA, Row w G 60 7 MA.enc x.ma x.mn ms ∧ ms.length = ps.length ∧ ∀ i (h : i < ms.length) (h' : i < ps.length), ms[i].name = ps[i].1 ∧ Tree w G d ms[i].v ps[i].2)
theorem Tree.mod {w w' : World} {G S : Nat → Prop} (hm : Mod S w w') (hs : ∀ g, G g → (TB w g 30 ∨ TB w g 60) → ¬ S g) : ∀ (d : Nat) (x : VA) (v : VT), Tree w G d x v → Tree w' G d x v
  | 0, _, _, h => h
  | d + 1, x, v, h => by
    obtain ⟨vs, ps, hv, ⟨xs, h1, h2, h3⟩, ⟨ms, h4, h5, h6⟩⟩ := h
    exact ⟨vs, ps, hv, ⟨xs, h1.mod hm (fun g hG ht => hs g hG (.inl ht)), h2, fun i hi hi' => Tree.mod hm hs d _ _ (h3 i hi hi')⟩,
      ⟨ms, h4.mod hm (fun g hG ht => hs g hG (.inr ht)), h5, fun i hi hi' => ⟨(h6 i hi hi').1, Tree.mod hm hs d _ _ (h6 i hi hi').2⟩⟩⟩
theorem Tree.new {w w' : World} {G : Nat → Prop} {d : Nat} {x : VA} {v : VT} (h : Tree w G d x v) (hm : New w w') : Tree w' G d x v := Tree.mod hm (fun _ _ _ e => e) d x v h
theorem Tree.imp {w : World} {G G' : Nat → Prop} (hG : ∀ g, G g → g < w.heap.size → G' g) : ∀ (d : Nat) (x : VA) (v : VT), Tree w G d x v → Tree w G' d x v
  | 0, _, _, h => h
  | d + 1, x, v, h => by
    obtain ⟨vs, ps, hv, ⟨xs, h1, h2, h3⟩, ⟨ms, h4, h5, h6⟩⟩ := h
    exact ⟨vs, ps, hv, ⟨xs, h1.imp hG, h2, fun i hi hi' => Tree.imp hG d _ _ (h3 i hi hi')⟩,
      ⟨ms, h4.imp hG, h5, fun i hi hi' => ⟨(h6 i hi hi').1, Tree.imp hG d _ _ (h6 i hi hi').2⟩⟩⟩
theorem Tree.more {w : World} {G : Nat → Prop} : ∀ (d : Nat) (x : VA) (v : VT), Tree w G d x v → Tree w G (d + 1) x v
  | 0, _, _, h => h.elim
  | d + 1, x, v, h => by
    obtain ⟨vs, ps, hv, ⟨xs, h1, h2, h3⟩, ⟨ms, h4, h5, h6⟩⟩ := h
    exact ⟨vs, ps, hv, ⟨xs, h1, h2, fun i hi hi' => Tree.more d _ _ (h3 i hi hi')⟩,
      ⟨ms, h4, h5, fun i hi hi' => ⟨(h6 i hi hi').1, Tree.more d _ _ (h6 i hi hi').2⟩⟩⟩
theorem Tree.upto {w : World} {G : Nat → Prop} {d d' : Nat} (hd : d ≤ d') {x : VA} {v : VT} (h : Tree w G d x v) : Tree w G d' x v := by
  obtain ⟨k, rfl⟩ := Nat.le.dest hd
  induction k with
  | zero => exact h
  | succ k ih => exact Tree.more _ _ _ (ih (by omega))
theorem Tree.fields {w : World} {G : Nat → Prop} {d : Nat} {x : VA} {v : VT} (h : Tree w G d x v) : v.kind = x.kind ∧ v.flag = x.flag ∧ v.num = x.num ∧ v.words = x.words ∧ v.list.length = x.ln ∧ v.mem.length = x.mn := by
  cases d with
  | zero => exact h.elim
  | succ d =>
    obtain ⟨vs, ps, rfl, ⟨xs, h1, h2, h3⟩, ⟨ms, h4, h5, h6⟩⟩ := h
    exact ⟨rfl, rfl, rfl, rfl, h2.symm.trans h1.1, h5.symm.trans h4.1⟩
/-- what stands at a place of the list -/
theorem Tree.item {w : World} {G : Nat → Prop} {d : Nat} {x : VA} {v : VT} (h : Tree w G (d + 1) x v) {i : Nat} (hi : i < v.list.length) :
    ∃ g o y, x.la = some ⟨g, o, none⟩ ∧ g < w.heap.size ∧ TB w g 30 ∧ G g ∧ (∀ j, j < 6 → w.cell? ⟨g, o + i * 6 + j, none⟩ = some (y.enc j)) ∧ Tree w G d y v.list[i] := by
  obtain ⟨vs, ps, rfl, ⟨xs, h1, h2, h3⟩, ⟨ms, h4, h5, h6⟩⟩ := h
  have hi' : i < vs.length := hi
  have hx : i < xs.length := by omega
  have h10 := h1.1
  obtain ⟨g, o, hA, hG, ht, hc⟩ := h1.2 (by omega)
  exact ⟨g, o, xs[i], hA, ht.lt, ht, hG, fun j hj => hc i hx j hj, h3 i hx hi'⟩
theorem Tree.member {w : World} {G : Nat → Prop} {d : Nat} {x : VA} {v : VT} (h : Tree w G (d + 1) x v) {i : Nat} (hi : i < v.mem.length) :
    ∃ g o y, x.ma = some ⟨g, o, none⟩ ∧ g < w.heap.size ∧ TB w g 60 ∧ G g ∧ w.cell? ⟨g, o + i * 7, none⟩ = some (.string v.mem[i].1) ∧ (∀ j, j < 6 → w.cell? ⟨g, o + i * 7 + (j + 1), none⟩ = some (y.enc j)) ∧ Tree w G d y v.mem[i].2 := by
  obtain ⟨vs, ps, rfl, ⟨xs, h1, h2, h3⟩, ⟨ms, h4, h5, h6⟩⟩ := h
  have hi' : i < ps.length := hi
  have hx : i < ms.length := by omega
  have h40 := h4.1
  obtain ⟨g, o, hA, hG, ht, hc⟩ := h4.2 (by omega)
  have h7 := h6 i hx hi'
  refine ⟨g, o, ms[i].v, hA, ht.lt, ht, hG, ?_, fun j hj => hc i hx (j + 1) (by omega), h7.2⟩
  have := hc i hx 0 (by omega)
  rw [Nat.add_zero] at this
  rw [this]
  exact congrArg (fun s => some (Value.string s)) h7.1

theorem New.only {b : Nat} {w w' : World} (h : New w w') : Only b w w' := h.mono (fun _ _ e => e.elim)
theorem Only.set {b : Nat} {w w' : World} (h : Only b w w') (i : Nat) (u : Value) : Only b w (w'.setCell ⟨b, i, none⟩ u) := Mod.setCell (S := fun k => k = b) (p := ⟨b, i, none⟩) h (.inl rfl) u
theorem Tree.only {w w' : World} {G : Nat → Prop} {d : Nat} {x : VA} {v : VT} {b : Nat} {t : TypeId} (h : Tree w G d x v) (hm : Only b w w') (hb : TB w b t) (h1 : 30 ≠ t) (h2 : 60 ≠ t) : Tree w' G d x v :=
  Tree.mod hm (fun g _ hg e => by
    subst e
    rcases hg with hg | hg
    · exact hg.ne hb h1 rfl
    · exact hg.ne hb h2 rfl) d x v h


section
variable {α : Type} {w w' : World} {B : Nat} {t : TypeId} {sz : Nat} {enc : α → Nat → Value} {A : Option Addr} {n c : Nat} {xs : List α} {P : Program}

/-- a row that is known by its first elements, whatever else lies behind them -/
theorem Own.row {g : Nat} (h : Own w B t sz enc (some ⟨g, 0, none⟩) n c xs) : ∃ cur, Blk w g t cur ∧ B ≤ g ∧ n ≤ c ∧ c ≤ maxLen ∧ cur.size = c * sz ∧ cur.toList.take (n * sz) = xs.flatMap (encL sz enc) := by
  rcases h.2.2 with ⟨hv, hn⟩ | ⟨g', cap, cur, hv, hB, hh, hc1, hc2, hs, ht⟩
  · cases hv
  · injection hv with h1 h2 h3
    injection h1 with h1
    injection h1 with h1
    subst h1 h3
    exact ⟨cur, hh, hB, hc1, hc2, hs, ht⟩
theorem Own.of_row {g : Nat} {cur : Array Value} (hb : Blk w g t cur) (hB : B ≤ g) (hn : n ≤ c) (hc : c ≤ maxLen) (hs : cur.size = c * sz) (hl : xs.length = n) (ht : cur.toList.take (n * sz) = xs.flatMap (encL sz enc)) : Own w B t sz enc (some ⟨g, 0, none⟩) n c xs :=
  ⟨hl, by rw [flat_length, hl], .inr ⟨g, c, cur, rfl, hB, hb, hn, hc, hs, ht⟩⟩
theorem flat_take (xs : List α) (i : Nat) : (xs.take i).flatMap (encL sz enc) = (xs.flatMap (encL sz enc)).take (i * sz) := by
  induction xs generalizing i with
  | nil => simp
  | cons x xs ih =>
    cases i with
    | zero => simp
    | succ i =>
      rw [List.take_succ_cons, List.flatMap_cons, List.flatMap_cons, ih, List.take_append, encL_length, Nat.succ_mul, Nat.add_sub_cancel, List.take_of_length_le (l := encL sz enc x) (by rw [encL_length]; omega)]
/-- a shorter slice of the same row -/
theorem Own.cut {g : Nat} (h : Own w B t sz enc (some ⟨g, 0, none⟩) n c xs) {i : Nat} (hi : i ≤ n) : Own w B t sz enc (some ⟨g, 0, none⟩) i c (xs.take i) := by
  obtain ⟨cur, hb, hB, hn, hc, hs, ht⟩ := h.row
  have hl := h.1
  refine Own.of_row hb hB (by omega) hc hs (by simp; omega) ?_
  rw [flat_take, ← ht, List.take_take, Nat.min_eq_left (Nat.mul_le_mul_right sz hi)]
theorem Own.frozen {g : Nat} (h : Own w B t sz enc (some ⟨g, 0, none⟩) n c xs) (i : Nat) : w.frozen? ⟨g, i, none⟩ = false := by
  obtain ⟨cur, hb, _⟩ := h.row; exact hb.frozen i
theorem Own.cell1 {enc : α → Nat → Value} {g : Nat} (h : Own w B t 1 enc (some ⟨g, 0, none⟩) n c xs) {i : Nat} (hi : i < xs.length) : w.cell? ⟨g, i, none⟩ = some (enc xs[i] 0) := by
  obtain ⟨g', o', hA, hg, hc⟩ := h.sl.2 (by have := h.1; omega)
  injection hA with hA
  injection hA with h1 h2
  subst h1 h2
  have := hc i hi 0 (by omega)
  simpa using this
theorem Blk.setRow {g : Nat} {cur cur' : Array Value} (h : Blk w g t cur) : Blk (w.setRow g cur') g t cur' := setRow_heap w g cur cur' t (0, 0) h
theorem Mod.setRow {S : Nat → Prop} {a : World} {g : Nat} {cur : Array Value} (h : Mod S a w) (hg : S g ∨ a.heap.size ≤ g) : Mod S a (w.setRow g cur) := by
  refine ⟨h.os, h.tape, h.output, by simpa [World.setRow] using h.size, fun i hi hs => ?_⟩
  rw [← h.block i hi hs]
  have hne : i ≠ g := by
    rintro rfl
    rcases hg with hg | hg
    · exact hs hg
    · omega
  simp [World.setRow, Array.getElem?_modify, hne.symm]

end


/-- append of one element that lies in a block of its own, in a region that draws its order -/
theorem wp_push {α : Type} {w : World} {B : Nat} {t : TypeId} {sz : Nat} {enc : α → Nat → Value} {A : Option Addr} {n c : Nat} {xs : List α} {P : Program} {o : Oper} {a : Act} {K : Act → World → Prop} {Q : Exit → Act → World → Prop} (s x : Operand) (ts : TypeId)
    (ho : o.op = .call { callee := .builtin .append, args := #[s, x], argTypes := #[ts, ts] }) (bytes : Nat) (ht : P.underlying ts = some (.slice t)) (hi : EInfo P t sz bytes)
    (hs : a.eval s = .slice A n c) (hown : Own w B t sz enc A n c xs) (y : α) (g0 : Nat) (hx : a.eval x = .slice (some ⟨g0, 0, none⟩) 1 1) (hb : Blk w g0 t (encL sz enc y).toArray)
    (h1 : ∀ j, j < sz → (enc y j).oneCell' = true) (hn : n + 1 < 1000000) (hbytes : bytes ≤ 1000000) (hB : B ≤ w.heap.size)
    (h : ∀ g cap w', Own w' B t sz enc (some ⟨g, 0, none⟩) (n + 1) cap (xs ++ [y]) → Mod (fun k => blkOf A = some k) w w' → (blkOf A = some g ∨ g = w.heap.size) → g < w'.heap.size →
      K (a.put o.dst (.slice (some ⟨g, 0, none⟩) (n + 1) cap)) w') : Oper.wp P o a w K Q := by
  obtain ⟨i, z, hi0, hz, hsz, hby, hzs, h0⟩ := hi
  refine wp_append_lies w s x ts ho B t i z sz bytes ht hi0 hz hsz hby hzs h0 _ n _ hs hown.2 ⟨g0, 0, none⟩ 1 1 (encL sz enc y) hx (by rw [encL_length]; omega) ?_ ?_ (by omega) (by unfold maxLen; omega) ?_ hB _ rfl ?_
  · have := World.news_of_block hb
    simpa using this
  · intro u hu
    simp only [encL, List.mem_map, List.mem_range] at hu
    obtain ⟨j, hj, rfl⟩ := hu
    exact h1 j hj
  · have : (n + 1) * bytes ≤ 1000000 * 1000000 := Nat.mul_le_mul (by omega) hbytes
    omega
  · intro g cap w' hown' hg hat hlt
    rw [ownBlock_eq] at hg hat
    refine h g cap w' ⟨by simp [hown.1], by simpa using hown'⟩ ?_ hat hlt
    exact (Mod.refl (fun k => blkOf A = some k) w).grown hg (fun k e => .inl e)


theorem Own.far' {α : Type} {w : World} {B : Nat} {t : TypeId} {sz : Nat} {enc : α → Nat → Value} {A : Option Addr} {n c : Nat} {xs : List α} (h : Own w B t sz enc A n c xs) (g : Nat) (e : blkOf A = some g) : B ≤ g ∧ g < w.heap.size ∧ TB w g t := by
  rcases h.blk with ⟨hA, _⟩ | ⟨g', hA, hB, ht⟩
  · subst hA; cases e
  · subst hA; injection e with e; simp only at e; subst e; exact ⟨hB, ht.lt, ht⟩
structure TrOk {α β : Type} (Tr : World → (Nat → Prop) → α → β → Prop) : Prop where
  mod : ∀ {w w' : World} {G S : Nat → Prop} {x : α} {v : β}, Mod S w w' → (∀ g, G g → (TB w g 30 ∨ TB w g 60) → ¬ S g) → Tr w G x v → Tr w' G x v
  imp : ∀ {w : World} {G G' : Nat → Prop} {x : α} {v : β}, (∀ g, G g → g < w.heap.size → G' g) → Tr w G x v → Tr w G' x v
def TrV (d : Nat) (w : World) (G : Nat → Prop) (x : VA) (v : VT) : Prop := Tree w G d x v
def TrM (d : Nat) (w : World) (G : Nat → Prop) (m : MA) (p : ByteArray × VT) : Prop := m.name = p.1 ∧ Tree w G d m.v p.2
theorem trV_ok (d : Nat) : TrOk (TrV d) := ⟨fun hm hs h => Tree.mod hm hs _ _ _ h, fun hG h => Tree.imp hG _ _ _ h⟩
theorem trM_ok (d : Nat) : TrOk (TrM d) := ⟨fun hm hs h => ⟨h.1, Tree.mod hm hs _ _ _ h.2⟩, fun hG h => ⟨h.1, Tree.imp hG _ _ _ h.2⟩⟩

structure Kids {α β : Type} (Tr : World → (Nat → Prop) → α → β → Prop) (t : TypeId) (sz : Nat) (enc : α → Nat → Value) (w : World) (B : Nat) (G : Nat → Prop) (A : Option Addr) (m c : Nat) (xs : List α) (vs : List β) : Prop where
  own : Own w B t sz enc A m c xs
  len : vs.length = m
  tree : ∀ i (h : i < xs.length) (h' : i < vs.length), Tr w (fun g => G g ∧ blkOf A ≠ some g) xs[i] vs[i]
section
variable {α β : Type} {Tr : World → (Nat → Prop) → α → β → Prop} {t : TypeId} {sz : Nat} {enc : α → Nat → Value} {w w' : World} {B : Nat} {G : Nat → Prop} {A : Option Addr} {m c : Nat} {xs : List α} {vs : List β}
theorem Kids.nil : Kids Tr t sz enc w B G none 0 0 ([] : List α) ([] : List β) := ⟨Own.nil, rfl, fun i h => absurd h (by simp)⟩
theorem Kids.mod {S : Nat → Prop} (hT : TrOk Tr) (h : Kids Tr t sz enc w B G A m c xs vs) (hm : Mod S w w') (h1 : ∀ g, G g → (TB w g 30 ∨ TB w g 60) → ¬ S g) (h2 : ∀ g, blkOf A = some g → ¬ S g) : Kids Tr t sz enc w' B G A m c xs vs :=
  ⟨h.own.mod hm h2, h.len, fun i hi hi' => hT.mod hm (fun g hG ht => h1 g hG.1 ht) (h.tree i hi hi')⟩
theorem Kids.new (hT : TrOk Tr) (h : Kids Tr t sz enc w B G A m c xs vs) (hm : New w w') : Kids Tr t sz enc w' B G A m c xs vs := h.mod hT hm (fun _ _ _ e => e) (fun _ _ e => e)
theorem Kids.push {g9 cap : Nat} {y : α} {u : β} (hT : TrOk Tr) (h : Kids Tr t sz enc w B G A m c xs vs) (hy : Tr w (fun g => G g ∧ blkOf A ≠ some g) y u) (ho : Own w' B t sz enc (some ⟨g9, 0, none⟩) (m + 1) cap (xs ++ [y])) (hm : Mod (fun k => blkOf A = some k) w w') (hat : blkOf A = some g9 ∨ g9 = w.heap.size) :
    Kids Tr t sz enc w' B G (some ⟨g9, 0, none⟩) (m + 1) cap (xs ++ [y]) (vs ++ [u]) := by
  have key : ∀ x v, Tr w (fun g => G g ∧ blkOf A ≠ some g) x v → Tr w' (fun g => G g ∧ blkOf (some (⟨g9, 0, none⟩ : Addr)) ≠ some g) x v := fun x v hx => by
    have h1 : Tr w (fun g => (G g ∧ blkOf A ≠ some g) ∧ blkOf (some (⟨g9, 0, none⟩ : Addr)) ≠ some g) x v := hT.imp (fun g hg hl => ⟨hg, fun e => by
      injection e with e
      simp only at e
      rcases hat with h9 | h9
      · exact hg.2 (by rw [h9, e])
      · omega⟩) hx
    have h2 := hT.mod hm (fun g hg _ e => hg.1.2 e) h1
    exact hT.imp (fun g hg _ => ⟨hg.1.1, hg.2⟩) h2
  have hl := h.own.1
  have hl2 := h.len
  refine ⟨ho, by simp [hl2], fun i hi hi' => ?_⟩
  simp only [List.length_append, List.length_cons, List.length_nil] at hi hi'
  by_cases e : i < m
  · rw [List.getElem_append_left (by omega), List.getElem_append_left (by omega)]
    exact key _ _ (h.tree i (by omega) (by omega))
  · rw [List.getElem_append_right (by omega), List.getElem_append_right (by omega)]
    simp only [List.getElem_singleton]
    exact key _ _ hy
end
/-- a value over rows that have been built -/
theorem Tree.of_kids {w : World} {G : Nat → Prop} {B B' d : Nat} {G1 G2 : Nat → Prop} {kind : Int} {flag : Bool} {num : Int} {words : ByteArray} {A A' : Option Addr} {m c m' c' : Nat} {xs : List VA} {vs : List VT} {ms : List MA} {ps : List (ByteArray × VT)}
    (h1 : Kids (TrV d) 30 6 VA.enc w B G1 A m c xs vs) (h2 : Kids (TrM d) 60 7 MA.enc w B' G2 A' m' c' ms ps)
    (g1 : ∀ g, G1 g → g < w.heap.size → G g) (g2 : ∀ g, G2 g → g < w.heap.size → G g) (b1 : ∀ g, B ≤ g → G g) (b2 : ∀ g, B' ≤ g → G g) :
    Tree w G (d + 1) ⟨kind, flag, num, words, A, m, c, A', m', c'⟩ (.mk kind flag num words vs ps) :=
  ⟨vs, ps, rfl, ⟨xs, h1.own.row' (fun g _ hB => b1 g hB), by rw [h1.own.1, h1.len], fun i hi hi' => Tree.imp (fun g hg hl => g1 g hg.1 hl) _ _ _ (h1.tree i hi hi')⟩,
    ⟨ms, h2.own.row' (fun g _ hB => b2 g hB), by rw [h2.own.1, h2.len], fun i hi hi' => ⟨(h2.tree i hi hi').1, Tree.imp (fun g hg hl => g2 g hg.1 hl) _ _ _ (h2.tree i hi hi').2⟩⟩⟩
theorem sum_le_all {α : Type} (f : α → Nat) (m : Nat) : ∀ (l : List α), (∀ x ∈ l, f x ≤ m) → (l.map f).sum ≤ l.length * m
  | [], _ => by simp
  | x :: l, h => by
    have h1 := h x (by simp)
    have h2 := sum_le_all f m l (fun y hy => h y (by simp [hy]))
    simp only [List.map_cons, List.sum_cons, List.length_cons, Nat.succ_mul]
    omega


/-- a stream at block b: its list is read-only memory below b; it has been asked at most k times -/
def SInv (b : Nat) (w : World) (k : Nat) : Prop :=
  ∃ (A : Option Addr) (n c : Nat) (q : Nat) (z : Nat → Int), Blk w b 25 #[.slice A n c, .int .i64 (q : Int)] ∧ q ≤ k ∧ n ≤ maxLen ∧
    (0 < n → ∃ g o, A = some ⟨g, o, none⟩ ∧ g < b ∧ ∀ i, i < n → w.cell? ⟨g, o + i, none⟩ = some (.int .i64 (z i)) ∧ -9223372036854775808 ≤ z i ∧ z i ≤ 9223372036854775807)

theorem SInv.lt {b k : Nat} {w : World} (h : SInv b w k) : b < w.heap.size := by
  obtain ⟨A, n, c, q, z, hb, _⟩ := h; exact hb.lt
theorem SInv.more {b k k' : Nat} {w : World} (h : SInv b w k) (hk : k ≤ k') : SInv b w k' := by
  obtain ⟨A, n, c, q, z, hb, hq, hr⟩ := h; exact ⟨A, n, c, q, z, hb, by omega, hr⟩
theorem SInv.mod {S : Nat → Prop} {b k : Nat} {w w' : World} (h : SInv b w k) (hm : Mod S w w') (hs : ∀ i, i ≤ b → ¬ S i) : SInv b w' k := by
  obtain ⟨A, n, c, q, z, hb, hq, hn, hr⟩ := h
  have hlt := hb.lt
  refine ⟨A, n, c, q, z, hb.mod hm (hs b (Nat.le_refl _)), hq, hn, fun h0 => ?_⟩
  obtain ⟨g, o, ha, hg, hc⟩ := hr h0
  refine ⟨g, o, ha, hg, fun i hi => ?_⟩
  have := hm.cell (p := ⟨g, o + i, none⟩) (by show g < _; omega) (hs g (by omega))
  exact ⟨this.trans (hc i hi).1, (hc i hi).2⟩

def I64 (x : Int) : Prop := -9223372036854775808 ≤ x ∧ x ≤ 9223372036854775807
theorem wrap64_I64 (x : Int) : I64 (wrap64 x) := by unfold I64 wrap64; omega

/-- an integer handed back, and what is said of it; w' besides -/
def RInt (Q : Int → World → Prop) (e : Ending) (w' : World) : Prop := ∃ m : Int, e = .returned (.int .i64 m) ∧ Q m w'

theorem below_any (x n : Int) (w : World) (hn : 1 ≤ n) (hx : I64 x) (hn2 : n ≤ 9223372036854775807) :
    Calls Tryz.prog 54 #[.int .i64 x, .int .i64 n] w (RInt fun m w' => 0 ≤ m ∧ m < n ∧ w = w') := by
  have h1 : ¬ n < 1 := by omega
  obtain ⟨hx1, hx2⟩ := hx
  have h3 := Int.tmod_lt_of_pos x (b := n) (by omega)
  have h4 := Int.lt_tmod_of_pos x (b := n) (by omega)
  generalize hy : x.tmod n = y at *
  go_enter Tryz.func54, Tryz.ntmps54
  go_wp2
  all_goals go_ret
  · exact ⟨_, rfl, by omega, by omega, rfl⟩
  · exact ⟨_, rfl, by omega, by omega, rfl⟩

/-- what a function of the stream does to the world: only the stream's block turns, it has been asked at most k times in all -/
structure SStep (b : Nat) (w w' : World) (k : Nat) : Prop where
  lt : b < w.heap.size
  only : Only b w w'
  inv : SInv b w' k
theorem SStep.refl {b k : Nat} {w : World} (h : SInv b w k) : SStep b w w k := ⟨h.lt, Mod.refl _ _, h⟩
theorem SStep.trans {b k k' : Nat} {w w' w'' : World} (h : SStep b w w' k) (h' : SStep b w' w'' k') : SStep b w w'' k' := ⟨h.lt, h.only.trans h'.only, h'.inv⟩
theorem SStep.new {b k : Nat} {w w' w'' : World} (h : SStep b w w' k) (h' : New w' w'') : SStep b w w'' k :=
  ⟨h.lt, h.only.step h' (fun _ _ x => x.elim), h.inv.mod h' (fun _ _ x => x)⟩
theorem SStep.alloc {b k : Nat} {w w' : World} (h : SStep b w w' k) (o : Obj) : SStep b w (w'.alloc o) k := h.new ((Mod.refl _ _).alloc o)
theorem SStep.drew {b k : Nat} {w w' : World} (h : SStep b w w' k) : SStep b w w'.drew k := h.new (Mod.refl _ _).drew
theorem SStep.drewN {b k : Nat} {w w' : World} (h : SStep b w w' k) (n : Nat) : SStep b w (w'.drewN n) k := h.new ((Mod.refl _ _).drewN n)
theorem SStep.more {b k k' : Nat} {w w' : World} (h : SStep b w w' k) (hk : k ≤ k') : SStep b w w' k' := ⟨h.lt, h.only, h.inv.more hk⟩
theorem SStep.set {b k : Nat} {w w' : World} (h : SStep b w w' k) {p : Addr} (hp : w.heap.size ≤ p.block) (u : Value) : SStep b w (w'.setCell p u) k :=
  ⟨h.lt, h.only.setCell (.inr hp) u, h.inv.mod (S := fun i => i = p.block) ((Mod.refl (fun i => i = p.block) _).setCell (.inl rfl) u) (fun i hi e => by have := h.lt; omega)⟩
theorem SStep.grown {b k : Nat} {w w' w'' : World} {row : Option Nat} (h : SStep b w w' k) (hg : w'.grownBy w'' row) (hr : ∀ i, row = some i → w.heap.size ≤ i) : SStep b w w'' k :=
  ⟨h.lt, h.only.grown hg (fun i e => .inr (hr i e)), h.inv.mod (S := fun i => row = some i) ((Mod.refl (fun i => row = some i) _).grown hg (fun i e => .inl e)) (fun i hi e => by have := h.lt; have := hr i e; omega)⟩

set_option maxHeartbeats 400000 in
theorem next_any (b k : Nat) (n : Int) (w : World) (hs : SInv b w k) (hk : k < 4611686018427387904) (hn : 1 ≤ n) (hn2 : n ≤ 9223372036854775807) :
    Calls Tryz.prog 27 #[.pointer (some ⟨b, 0, none⟩), .int .i64 n] w (RInt fun m w' => 0 ≤ m ∧ m < n ∧ SStep b w w' (k + 1)) := by
  obtain ⟨A, l, c, q, z, hb, hq, hl, hr⟩ := hs
  unfold maxLen at hl
  have c0 := hb.cell 0
  have c1 := hb.cell 1
  have f1 := hb.frozen 1
  simp at c0 c1
  have hfin : ∀ q' : Nat, q' = q + 1 → SStep b w (w.setCell ⟨b, 1, none⟩ (.int .i64 (q' : Int))) (k + 1) := by
    rintro q' rfl
    refine ⟨hb.lt, (Mod.refl (fun k => k = b) w).setCell (.inl rfl) _, A, l, c, q + 1, z, by simpa using hb.set 1 _, by omega, hl, fun h0 => ?_⟩
    obtain ⟨g, o, ha, hg, hc⟩ := hr h0
    refine ⟨g, o, ha, hg, fun i hi => ⟨?_, (hc i hi).2⟩⟩
    rw [← (hc i hi).1]
    exact World.cell?_setCell_other w _ _ _ (by intro e; injection e; omega)
  have HF := hId hfin
  clear hfin
  by_cases h0 : l = 0
  · subst h0
    clear hr hb
    go_enter Tryz.func27, Tryz.ntmps27
    go_wp2_with fail
    refine (below_any _ _ _ hn ?_ hn2).mono ?_
    · exact wrap64_I64 _
    · rintro e w' ⟨m, rfl, h1, h2, rfl⟩
      go_wp2_with fail
      go_ret
      exact ⟨_, rfl, h1, h2, HF.out _ rfl⟩
  · obtain ⟨g, o, rfl, hg, hc⟩ := hr (by omega)
    have hne : g ≠ b := by omega
    have hd1 := Int.emod_nonneg (q : Int) (b := (l : Int)) (by omega)
    have hd2 := Int.emod_lt_of_pos (q : Int) (b := (l : Int)) (by omega)
    have hcx := hc (q % l) (Nat.mod_lt _ (by omega))
    have hl0 : (0 : Int) < l := by omega
    have hl1 : (l == 0) = false := by simpa using h0
    have hc1 : w.cell? ⟨g, o + q % l, none⟩ = some (.int .i64 (z (q % l))) := hcx.1
    have hz : I64 (z (q % l)) := hcx.2
    clear hcx hc hb
    go_enter Tryz.func27, Tryz.ntmps27
    go_wp2_with fail
    go_quiet (fail)
    go_wp2_with fail
    go_quiet (fail)
    go_wp2_with fail
    refine (below_any _ _ _ (by omega) hz (by omega)).mono ?_
    rintro e w' ⟨m, rfl, h1, h2, rfl⟩
    go_wp2_with fail
    refine (below_any _ _ _ hn ?_ hn2).mono ?_
    · exact wrap64_I64 _
    · rintro e w' ⟨m2, rfl, h3, h4, rfl⟩
      go_wp2_with fail
      go_ret
      exact ⟨_, rfl, h3, h4, (HF.out _ rfl).drewN _⟩


def RBool (Q : Bool → World → Prop) (e : Ending) (w' : World) : Prop := ∃ m : Bool, e = .returned (.bool m) ∧ Q m w'
def RStr (Q : ByteArray → World → Prop) (e : Ending) (w' : World) : Prop := ∃ m : ByteArray, e = .returned (.string m) ∧ Q m w'

set_option maxHeartbeats 400000 in
theorem flip_any (b k : Nat) (n : Int) (w : World) (hs : SInv b w k) (hk : k < 4611686018427387904) (hn : 1 ≤ n) (hn2 : n ≤ 9223372036854775807) :
    Calls Tryz.prog 9 #[.pointer (some ⟨b, 0, none⟩), .int .i64 n] w (RBool fun _ w' => SStep b w w' (k + 1)) := by
  go_enter Tryz.func9, Tryz.ntmps9
  go_wp2_with fail
  refine (next_any b k n _ hs hk hn hn2).mono ?_
  rintro e w' ⟨m, rfl, h1, h2, h3⟩
  go_wp2_with fail
  go_ret
  exact ⟨_, rfl, h3⟩

set_option maxHeartbeats 400000 in
theorem pick_any (xs : List Int) (b k g n : Nat) (w : World) (hs : SInv b w k) (hk : k < 4611686018427387904) (hx : Blk w g 3 (xs.map (Value.int .i64)).toArray) (hn : xs.length = n) (hn0 : 0 < n) (hn1 : n < 1000) :
    Calls Tryz.prog 15 #[.pointer (some ⟨b, 0, none⟩), .slice (some ⟨g, 0, none⟩) n n] w (RInt fun m w' => m ∈ xs ∧ SStep b w w' (k + 1)) := by
  have hgb : g ≠ b := by
    obtain ⟨A, l, c, q, z, hb, _⟩ := hs
    exact hx.ne hb (by decide)
  go_enter Tryz.func15, Tryz.ntmps15
  go_wp2_with fail
  refine (next_any b k _ _ hs hk (by omega) (by omega)).mono ?_
  rintro e w' ⟨m, rfl, h4, h5, h6⟩
  obtain ⟨m, rfl⟩ := Int.eq_ofNat_of_zero_le h4
  have hc := (hx.mod h6.only hgb).cell m
  have hm : m < xs.length := by omega
  rw [show (xs.map (Value.int .i64)).toArray[m]? = some (.int .i64 xs[m]) by simp [hm]] at hc
  go_wp2_with fail
  go_ret
  exact ⟨_, rfl, List.getElem_mem hm, h6⟩

set_option maxHeartbeats 400000 in
theorem some_any (xs : List ByteArray) (b k g n : Nat) (w : World) (hs : SInv b w k) (hk : k < 4611686018427387904) (hx : Blk w g 9 (xs.map Value.string).toArray) (hn : xs.length = n) (hn0 : 0 < n) (hn1 : n < 1000) :
    Calls Tryz.prog 10 #[.pointer (some ⟨b, 0, none⟩), .slice (some ⟨g, 0, none⟩) n n] w (RStr fun m w' => m ∈ xs ∧ SStep b w w' (k + 1)) := by
  have hgb : g ≠ b := by
    obtain ⟨A, l, c, q, z, hb, _⟩ := hs
    exact hx.ne hb (by decide)
  go_enter Tryz.func10, Tryz.ntmps10
  go_wp2_with fail
  refine (next_any b k _ _ hs hk (by omega) (by omega)).mono ?_
  rintro e w' ⟨m, rfl, h4, h5, h6⟩
  obtain ⟨m, rfl⟩ := Int.eq_ofNat_of_zero_le h4
  have hc := (hx.mod h6.only hgb).cell m
  have hm : m < xs.length := by omega
  rw [show (xs.map Value.string).toArray[m]? = some (.string xs[m]) by simp [hm]] at hc
  go_wp2_with fail
  go_ret
  exact ⟨_, rfl, List.getElem_mem hm, h6⟩


structure Lim where
  key : ByteArray
  kind : Int
  most : Int
  per : Int
  burst : Int

def Lim.cells (l : Lim) : Array Value := #[.string l.key, .int .i64 l.kind, .int .i64 l.most, .int .i64 l.per, .int .i64 l.burst]
def Lim.val (l : Lim) : Value := .agg #[.string l.key, .int .i64 l.kind, .int .i64 l.most, .int .i64 l.per, .int .i64 l.burst]

def Lim.enc (l : Lim) : Nat → Value
  | 0 => .string l.key
  | 1 => .int .i64 l.kind
  | 2 => .int .i64 l.most
  | 3 => .int .i64 l.per
  | 4 => .int .i64 l.burst
  | _ => .nilFunc

/-- numbers of a size with which no product that is made of them passes an int -/
def Lim.Small (l : Lim) : Prop :=
  (-1000000000000001 ≤ l.kind ∧ l.kind ≤ 1000000000000001) ∧ (-1000000000000001 ≤ l.most ∧ l.most ≤ 1000000000000001) ∧
  (-1000000000000001 ≤ l.per ∧ l.per ≤ 1000000000000001) ∧ (-1000000000000001 ≤ l.burst ∧ l.burst ≤ 1000000000000001)

end Go.Proofs.YtjmnkdkdjnmejaaGreatDoor
