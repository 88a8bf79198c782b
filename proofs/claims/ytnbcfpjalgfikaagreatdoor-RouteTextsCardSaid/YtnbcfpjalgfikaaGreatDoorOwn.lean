/- Slices that a call itself makes: what append does to them, said of lists. No conditions but lengths below 2^40. -/
import Derived.Test.YtnbcfpjalgfikaaGreatDoorBase
import Derived.Deep.AppendLies
namespace Go.Proofs.YtnbcfpjalgfikaaGreatDoor
open Go.RowKit
set_option linter.unusedVariables false
set_option linter.unusedSimpArgs false

def encL {α : Type} (sz : Nat) (enc : α → Nat → Value) (x : α) : List Value := (List.range sz).map (enc x)
theorem encL_length {α : Type} (sz : Nat) (enc : α → Nat → Value) (x : α) : (encL sz enc x).length = sz := by simp [encL]
theorem flat_length {α : Type} (sz : Nat) (enc : α → Nat → Value) (xs : List α) : (xs.flatMap (encL sz enc)).length = xs.length * sz := by
  induction xs with
  | nil => simp
  | cons x xs ih => simp [ih, encL_length, Nat.succ_mul]; omega
theorem flat_get {α : Type} (sz : Nat) (enc : α → Nat → Value) (xs : List α) (i : Nat) (hi : i < xs.length) (j : Nat) (hj : j < sz) : (xs.flatMap (encL sz enc))[i * sz + j]? = some (enc xs[i] j) := by
  induction xs generalizing i with
  | nil => simp at hi
  | cons x xs ih =>
    rw [List.flatMap_cons]
    cases i with
    | zero =>
      rw [List.getElem?_append_left (by rw [encL_length]; omega)]
      simp [encL, hj]
    | succ i =>
      rw [List.getElem?_append_right (by rw [encL_length, Nat.succ_mul]; omega), encL_length, show (i + 1) * sz + j - sz = i * sz + j by rw [Nat.succ_mul]; omega, ih i (by simpa using hi)]
      simp

/-- what the program's table says of an element type -/
def EInfo (P : Program) (e : TypeId) (sz bytes : Nat) : Prop := ∃ i z, P.info? e = some i ∧ i.zero = some z ∧ i.size = sz ∧ i.bytes = bytes ∧ z.cells.size = sz ∧ 0 < sz
theorem EInfo.of {P : Program} {e : TypeId} {z : Value} {sz bytes : Nat} (h : (P.info? e).map (fun i => (i.zero, i.size, i.bytes)) = some (some z, sz, bytes)) (hz : z.cells.size = sz) (h0 : 0 < sz) : EInfo P e sz bytes := by
  obtain ⟨i, hi, h1, h2, h3⟩ := info_parts h
  exact ⟨i, z, hi, h1, h2, h3, hz, h0⟩

/-- the slice '.slice A n c' is nil, or the head of a row from block B on that nobody else writes; it reads as xs -/
def Own {α : Type} (w : World) (B : Nat) (t : TypeId) (sz : Nat) (enc : α → Nat → Value) (A : Option Addr) (n c : Nat) (xs : List α) : Prop :=
  xs.length = n ∧ w.ownsRow B t sz (.slice A n c) n (xs.flatMap (encL sz enc))

def blkOf (A : Option Addr) : Option Nat := A.map (·.block)
theorem ownBlock_eq (A : Option Addr) (n c : Nat) : (Value.slice A n c).ownBlock = blkOf A := by cases A <;> rfl

section
variable {α : Type} {w w' : World} {B : Nat} {t : TypeId} {sz : Nat} {enc : α → Nat → Value} {A : Option Addr} {n c : Nat} {xs : List α}
theorem Own.nil : Own w B t sz enc none 0 0 ([] : List α) := ⟨rfl, by simpa using World.ownsRow_nil w B t sz⟩
theorem Own.form (h : Own w B t sz enc A n c xs) (h0 : 0 < n) : ∃ g, A = some ⟨g, 0, none⟩ ∧ B ≤ g ∧ TB w g t ∧ n ≤ c ∧ c ≤ maxLen := by
  rcases h.2.2 with ⟨_, hn⟩ | ⟨g, cap, cur, hv, hB, hh, hc1, hc2, _⟩
  · omega
  · injection hv with h1 h2 h3
    subst h3
    exact ⟨g, h1, hB, ⟨cur, _, hh⟩, hc1, hc2⟩
theorem Own.blk (h : Own w B t sz enc A n c xs) : A = none ∧ n = 0 ∧ c = 0 ∨ ∃ g, A = some ⟨g, 0, none⟩ ∧ B ≤ g ∧ TB w g t := by
  rcases h.2.2 with ⟨hv, hn⟩ | ⟨g, cap, cur, hv, hB, hh, hc1, hc2, _⟩
  · injection hv with h1 h2 h3; exact .inl ⟨h1, h2, h3⟩
  · injection hv with h1 h2 h3
    exact .inr ⟨g, h1, hB, ⟨cur, _, hh⟩⟩
theorem Own.sl (h : Own w B t sz enc A n c xs) : Sl w t sz enc A n xs := by
  refine ⟨h.1, fun h0 => ?_⟩
  obtain ⟨g, rfl, hB, hg, hc⟩ := h.form h0
  refine ⟨g, 0, rfl, hg, fun i hi j hj => ?_⟩
  have h1 := h.1
  have hlt : i * sz + j < n * sz := by
    have : (i + 1) * sz ≤ n * sz := Nat.mul_le_mul_right sz (by omega)
    rw [Nat.succ_mul] at this; omega
  have := h.2.cellAt (i * sz + j) hlt
  rw [flat_get sz enc xs i hi j hj] at this
  rw [← this, Nat.zero_add]
theorem Own.mod {S : Nat → Prop} (h : Own w B t sz enc A n c xs) (hm : Mod S w w') (hs : ∀ g, blkOf A = some g → ¬ S g) : Own w' B t sz enc A n c xs := by
  refine ⟨h.1, h.2.1, ?_⟩
  rcases h.2.2 with hv | ⟨g, cap, cur, hv, hB, hh, hr⟩
  · exact .inl hv
  · refine .inr ⟨g, cap, cur, hv, hB, ?_, hr⟩
    injection hv with h1
    subst h1
    exact (hm.block g (heap_lt hh) (hs g rfl)).trans hh
theorem Own.new (h : Own w B t sz enc A n c xs) (hm : New w w') : Own w' B t sz enc A n c xs := h.mod hm (fun _ _ x => x)
theorem Own.drewN (h : Own w B t sz enc A n c xs) (k : Nat) : Own (w.drewN k) B t sz enc A n c xs := h.new ((Mod.refl _ _).drewN k)
theorem Own.alloc (h : Own w B t sz enc A n c xs) (o : Obj) : Own (w.alloc o) B t sz enc A n c xs := h.new ((Mod.refl _ _).alloc o)
/-- out of a block that is known whole -/
theorem Own.of_blk {g m : Nat} (hb : Blk w g t (xs.flatMap (encL sz enc)).toArray) (hB : B ≤ g) (hn : xs.length = m) (hm : m ≤ 1000000) : Own w B t sz enc (some ⟨g, 0, none⟩) m m xs := by
  subst hn
  refine ⟨rfl, flat_length sz enc xs, .inr ⟨g, _, _, rfl, hB, hb, Nat.le_refl _, by unfold maxLen; omega, by rw [List.size_toArray, flat_length], ?_⟩⟩
  rw [← flat_length sz enc xs, List.take_length]

/-- behind an append onto a row of the call's own nothing of the caller's has turned -/
theorem Own.push_mod {S : Nat → Prop} {a w0 w1 : World} (h : Own w0 B t sz enc A n c xs) (hm : Mod S a w0) (h1 : Mod (fun k => blkOf A = some k) w0 w1) (hB : a.heap.size ≤ B) : Mod S a w1 :=
  hm.step h1 (fun i hi e => by
    rcases h.blk with ⟨hA, _⟩ | ⟨g, hA, hg, _⟩
    · subst hA; cases e
    · subst hA; injection e with e; simp only at e; omega)

/-- append of one element that lies in a block of its own -/
theorem wpList_push {P : Program} {ops : Array Oper} {rest : List Oper} {o : Oper} {a : Act} {Q : Exit → Act → World → Prop} (hgd : o.guard = none) (s x : Operand) (ts : TypeId)
    (ho : o.op = .call { callee := .builtin .append, args := #[s, x], argTypes := #[ts, ts] }) (bytes : Nat) (ht : P.underlying ts = some (.slice t)) (hi : EInfo P t sz bytes)
    (hs : a.eval s = .slice A n c) (hown : Own w B t sz enc A n c xs) (y : α) (g0 : Nat) (hx : a.eval x = .slice (some ⟨g0, 0, none⟩) 1 1) (hb : Blk w g0 t (encL sz enc y).toArray)
    (h1 : ∀ j, j < sz → (enc y j).oneCell' = true) (hn : n < 1000000) (hbytes : bytes ≤ 1000000) (hB : B ≤ w.heap.size)
    (h : ∀ g cap w', Own w' B t sz enc (some ⟨g, 0, none⟩) (n + 1) cap (xs ++ [y]) → Mod (fun k => blkOf A = some k) w w' → (blkOf A = some g ∨ g = w.heap.size) → g < w'.heap.size →
      wpList P ops Q rest (a.put o.dst (.slice (some ⟨g, 0, none⟩) (n + 1) cap)) w') : wpList P ops Q (o :: rest) a w := by
  obtain ⟨i, z, hi0, hz, hsz, hby, hzs, h0⟩ := hi
  refine wpList_append_lies w hgd s x ts ho B t i z sz bytes ht hi0 hz hsz hby hzs h0 _ n _ hs hown.2 ⟨g0, 0, none⟩ 1 1 (encL sz enc y) hx (by rw [encL_length]; omega) ?_ ?_ (by omega) (by unfold maxLen; omega) ?_ hB _ rfl ?_
  · have := World.news_of_block hb
    simpa using this
  · intro u hu
    simp only [encL, List.mem_map, List.mem_range] at hu
    obtain ⟨j, hj, rfl⟩ := hu
    exact h1 j hj
  · have : (n + 1) * bytes ≤ 1000000 * 1000000 := Nat.mul_le_mul (by omega) hbytes
    omega
  · intro g cap w' hown' hg hat hlt
    rw [ownBlock_eq] at hg hat
    refine h g cap w' ⟨by simp [hown.1], by simpa using hown'⟩ ?_ hat hlt
    exact (Mod.refl (fun k => blkOf A = some k) w).grown hg (fun k e => .inl e)
end

end Go.Proofs.YtnbcfpjalgfikaaGreatDoor
