/- A Builder's bytes in the words of these texts. Conditions: modest sizes. -/
import Derived.Test.YtjehlecgnepgmaaGreatDoorBu
namespace Go.Proofs.YtjehlecgnepgmaaGreatDoor
open Go.RowKit
set_option linter.unusedVariables false
set_option linter.unusedSimpArgs false

/-- a Builder at the head of block b (of type T) that holds the bytes l, its buffer from B on -/
abbrev Bw (T : TypeId) (B b : Nat) (l : List UInt8) (w : World) : Prop := Lib.IsBuilder T 5 B b (Lib.byteCells l) w
theorem Mod.of_belowB {B : Nat} {w w' : World} (h : Below B w w') : Mod (fun k => B ≤ k) w w' :=
  ⟨h.os, h.tape, h.output, h.size, fun i hi hs => h.block i (by omega)⟩
theorem New.grownBy {w w' : World} (h : New w w') (row : Option Nat) : w.grownBy w' row :=
  ⟨h.os, h.tape, h.output, h.size, fun k hk _ => h.block k hk (fun e => e)⟩
/-- what turned from B on, where w ends, is new -/
theorem New.from {B : Nat} {w w1 w2 : World} (h : New w w1) (hm : Mod (fun k => B ≤ k) w1 w2) (hB : w.heap.size ≤ B) : New w w2 :=
  h.step hm (fun i hi e => by omega)
theorem Keep.refl (b : Nat) (w : World) : Keep b w w := fun _ _ _ _ => rfl
theorem Keep.new {b : Nat} {w w' : World} (h : New w w') : Keep b w w' := fun k hk _ _ => h.block k hk (fun e => e)
theorem Keep.trans {b : Nat} {w w1 w2 : World} (h : Keep b w w1) (h1 : Keep b w1 w2) (hs : w.heap.size ≤ w1.heap.size) : Keep b w w2 := fun k hk hb hf => by
  have e := h k hk hb hf
  exact (h1 k (by omega) hb (fun cur => by rw [e]; exact hf cur)).trans e
theorem Blk.keep {b k : Nat} {t : TypeId} {cs : Array Value} {w w' : World} (h : Blk w k t cs) (hkp : Keep b w w') (hk : k ≠ b) (ht : t ≠ 5) : Blk w' k t cs :=
  (hkp k (heap_lt h) hk (fun cur e => by
    rw [show w.heap[k]? = some (.cells cs t (0, 0)) from h] at e
    injection e with e
    injection e with _ e2
    exact ht e2)).trans h
theorem Mod.keep {b B : Nat} {w w' : World} (hm : Mod (fun k => B ≤ k) w w') (hkp : Keep b w w') : Mod (fun k => k = b ∨ TB w k 5) w w' :=
  ⟨hm.os, hm.tape, hm.output, hm.size, fun i hi hs => hkp i hi (fun e => hs (.inl e)) (fun cur e => hs (.inr ⟨cur, _, e⟩))⟩
section
variable {T : TypeId}
theorem Bw.fresh {w : World} {B b : Nat} (hb : Blk w b T #[.pointer none, .slice none 0 0]) (hB : B ≤ b) : Bw T B b [] w :=
  .inl ⟨hB, .slice none 0 0, hb, World.ownsRow_nil _ _ _ _, by simp [Value.ownBlock]⟩
theorem Bw.new {B b : Nat} {l : List UInt8} {w w' : World} (h : Bw T B b l w) (hm : New w w') : Bw T B b l w' := by
  have key : ∀ p, Lib.BuilderAt T 5 B b p (Lib.byteCells l) w → Lib.BuilderAt T 5 B b p (Lib.byteCells l) w' := fun p ⟨h1, v, h2, h3, h4⟩ =>
    ⟨h1, v, (hm.block b (heap_lt h2) (fun e => e)).trans h2, h3.kept (hm.grownBy none) (by cases v.ownBlock with | none => exact .inl rfl | some k => exact .inr (by simp)), h4⟩
  exact h.imp (key _) (key _)
theorem Bw.lt {B b : Nat} {l : List UInt8} {w : World} (h : Bw T B b l w) : B ≤ b ∧ b < w.heap.size := by
  rcases h with ⟨h1, v, h2, _⟩ | ⟨h1, v, h2, _⟩
  · exact ⟨h1, heap_lt h2⟩
  · exact ⟨h1, heap_lt h2⟩
theorem bw_string (hT : BuT T) (B b : Nat) (l : List UInt8) (s : ByteArray) (w : World) (h : Bw T B b l w) (hn : l.length + s.size ≤ 1000000) :
    Calls Tryz.prog 35 #[.pointer (some ⟨b, 0, none⟩), .string s] w fun e w' => e = .returned (.tuple #[.int .i64 s.size, .nilIface]) ∧ Bw T B b (l ++ s.data.toList) w' ∧ Mod (fun k => B ≤ k) w w' ∧ Keep b w w' := by
  have hlt := h.lt
  refine (bu_string hT B b (Lib.byteCells l) s w h (by rw [Lib.byteCells_length]; omega) (by omega)).mono ?_
  rintro e w' ⟨rfl, hb, hm, hkp⟩
  refine ⟨rfl, .inr ?_, Mod.of_belowB hm, hkp⟩
  rw [Lib.byteCells_append, ← Lib.strCells_eq]
  exact hb
theorem bw_byte (hT : BuT T) (B b : Nat) (l : List UInt8) (c : UInt8) (n : Int) (hc : n = c.toNat) (w : World) (h : Bw T B b l w) (hn : l.length + 1 ≤ 1000000) :
    Calls Tryz.prog 73 #[.pointer (some ⟨b, 0, none⟩), .int .u8 n] w fun e w' => e = .returned .nilIface ∧ Bw T B b (l ++ [c]) w' ∧ Mod (fun k => B ≤ k) w w' ∧ Keep b w w' := by
  subst hc
  have hlt := h.lt
  refine (bu_byte hT B b (Lib.byteCells l) c.toNat w h (by rw [Lib.byteCells_length]; omega) (by omega)).mono ?_
  rintro e w' ⟨rfl, hb, hm, hkp⟩
  refine ⟨rfl, .inr ?_, Mod.of_belowB hm, hkp⟩
  rw [Lib.byteCells_append]
  exact hb
theorem bw_len (B b : Nat) (l : List UInt8) (w : World) (h : Bw T B b l w) :
    Calls Tryz.prog 37 #[.pointer (some ⟨b, 0, none⟩)] w fun e w' => e = .returned (.int .i64 l.length) ∧ w' = w := by
  have := bu_len B b (Lib.byteCells l) w h
  rwa [Lib.byteCells_length] at this
theorem bw_give (B b : Nat) (l : List UInt8) (w : World) (h : Bw T B b l w) (h0 : l ≠ []) :
    Calls Tryz.prog 38 #[.pointer (some ⟨b, 0, none⟩)] w fun e w' => e = .returned (.string ⟨l.toArray⟩) ∧ Mod (fun k => B ≤ k) w w' := by
  refine (bu_give B b l w h h0).mono ?_
  rintro e w' ⟨rfl, hm⟩
  exact ⟨rfl, Mod.of_belowB hm⟩
end

end Go.Proofs.YtjehlecgnepgmaaGreatDoor
