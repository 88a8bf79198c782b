/- strings.Builder in the words of these texts; limits as lines of a text: what both sides write. Conditions: strconv's table, modest sizes. -/
import Derived.Test.YtinnckbffblecaaGreatDoorLines1
import Derived.Test.YtinnckbffblecaaGreatDoorHeld3
import Derived.Test.YtinnckbffblecaaGreatDoorCmp
namespace Go.Proofs.YtinnckbffblecaaGreatDoor
open Go.RowKit
set_option linter.unusedVariables false
set_option linter.unusedSimpArgs false

/-- a Builder in block b that holds the bytes l, its buffer from B on -/
abbrev Bld (B b : Nat) (l : List UInt8) (w : World) : Prop := Lib.IsBuilder 50 5 B b (Lib.byteCells l) w
theorem Mod.of_belowB {B : Nat} {w w' : World} (h : Below B w w') : Mod (fun k => B ≤ k) w w' :=
  ⟨h.os, h.tape, h.output, h.size, fun i hi hs => h.block i (by omega)⟩
theorem New.grownBy {w w' : World} (h : New w w') (row : Option Nat) : w.grownBy w' row :=
  ⟨h.os, h.tape, h.output, h.size, fun k hk _ => h.block k hk (fun e => e)⟩
theorem Bld.fresh {w : World} {B b : Nat} (hb : Blk w b 50 #[.pointer none, .slice none 0 0]) (hB : B ≤ b) : Bld B b [] w :=
  .inl ⟨hB, .slice none 0 0, hb, World.ownsRow_nil _ _ _ _, by simp [Value.ownBlock]⟩
theorem Bld.new {B b : Nat} {l : List UInt8} {w w' : World} (h : Bld B b l w) (hm : New w w') : Bld B b l w' := by
  have key : ∀ p, Lib.BuilderAt 50 5 B b p (Lib.byteCells l) w → Lib.BuilderAt 50 5 B b p (Lib.byteCells l) w' := fun p ⟨h1, v, h2, h3, h4⟩ =>
    ⟨h1, v, (hm.block b (heap_lt h2) (fun e => e)).trans h2, h3.kept (hm.grownBy none) (by cases v.ownBlock with | none => exact .inl rfl | some k => exact .inr (by simp)), h4⟩
  exact h.imp (key _) (key _)
theorem Bld.lt {B b : Nat} {l : List UInt8} {w : World} (h : Bld B b l w) : B ≤ b ∧ b < w.heap.size := by
  rcases h with ⟨h1, v, h2, _⟩ | ⟨h1, v, h2, _⟩
  · exact ⟨h1, heap_lt h2⟩
  · exact ⟨h1, heap_lt h2⟩
theorem bld_write (B b : Nat) (l : List UInt8) (s : ByteArray) (w : World) (h : Bld B b l w) (hn : l.length + s.size ≤ 140737488355328) :
    Calls Tryz.prog 19 #[.pointer (some ⟨b, 0, none⟩), .string s] w fun e w' => e = .returned (.tuple #[.int .i64 s.size, .nilIface]) ∧ Bld B b (l ++ s.data.toList) w' ∧ Mod (fun k => B ≤ k) w w' := by
  have hlt := h.lt
  refine (Any.Builder_WriteString ({ Tryz.lays156 with } : Lays.n166 Tryz.prog Tryz.lays156_ren) Tryz.Builder_Extra_156 B b (Lib.byteCells l) s w h (by rw [Lib.byteCells_length]; exact hn) (by omega)).mono ?_
  rintro e w' ⟨rfl, hb, hm⟩
  refine ⟨rfl, .inr ?_, Mod.of_belowB hm⟩
  rw [Lib.byteCells_append, ← Lib.strCells_eq]
  exact hb
theorem bld_string (B b : Nat) (l : List UInt8) (w : World) (h : Bld B b l w) :
    Calls Tryz.prog 22 #[.pointer (some ⟨b, 0, none⟩)] w fun e w' => e = .returned (.string ⟨l.toArray⟩) ∧ Mod (fun k => B ≤ k) w w' := by
  have hlt := h.lt
  refine (Tryz.Builder_String_any B b l w h (by omega)).mono ?_
  rintro e w' ⟨rfl, hm⟩
  exact ⟨rfl, Mod.of_belowB hm⟩

/-- what turns only behind w0's end leaves the table -/
theorem Pow10.mod {S : Nat → Prop} {w0 w w' : World} (h0 : Pow10 w0) (h : Pow10 w) (hm : Mod S w w') (hS : ∀ g, g < w0.heap.size → ¬ S g) : Pow10 w' := by
  unfold Pow10 Lib.TabIs World.var? at *
  cases hg : Tryz.prog.globalNamed "internal/strconv.uint64pow10" with
  | none => rw [hg] at h; simp at h
  | some g =>
    rw [hg] at h h0
    simp only [Option.bind_some] at h h0 ⊢
    have l0 : g < w0.heap.size := by
      rcases Nat.lt_or_ge g w0.heap.size with hlt | hge
      · exact hlt
      · rw [Array.getElem?_eq_none hge] at h0; simp at h0
    have l1 : g < w.heap.size := by
      rcases Nat.lt_or_ge g w.heap.size with hlt | hge
      · exact hlt
      · rw [Array.getElem?_eq_none hge] at h; simp at h
    rw [hm.block g l1 (hS g l0)]
    exact h

abbrev sp : ByteArray := ⟨#[32]⟩
abbrev nl : ByteArray := ⟨#[10]⟩
/-- a limit as a line -/
def lineB (l : Lim) : ByteArray := ((((((((l.key ++ sp) ++ kindWord l.kind) ++ sp) ++ itoaB l.most) ++ sp) ++ itoaB l.per) ++ sp) ++ itoaB l.burst) ++ nl
def textL (ls : List Lim) : List UInt8 := ls.flatMap fun l => (lineB l).data.toList
theorem textL_take {ls : List Lim} {k : Nat} (h : k < ls.length) : textL (ls.take (k + 1)) = textL (ls.take k) ++ (lineB ls[k]).data.toList := by
  unfold textL
  rw [List.take_succ_eq_append_getElem h, List.flatMap_append]
  simp
theorem lineB_size {l : Lim} (hk : l.key.size ≤ 1000) (h1 : I64 l.most) (h2 : I64 l.per) (h3 : I64 l.burst) : (lineB l).size ≤ 1200 := by
  have := itoaB_size h1
  have := itoaB_size h2
  have := itoaB_size h3
  have := kindWord_size l.kind
  unfold lineB
  simp only [ByteArray.size_append]
  have e1 : (sp : ByteArray).size = 1 := rfl
  have e2 : (nl : ByteArray).size = 1 := rfl
  omega
structure LineLim (l : Lim) : Prop where
  key : l.key.size ≤ 1000
  kind : 1 ≤ l.kind ∧ l.kind ≤ 4
  most : I64 l.most
  per : I64 l.per
  burst : I64 l.burst
theorem textL_length {ls : List Lim} (h : ∀ l ∈ ls, LineLim l) : (textL ls).length ≤ 1200 * ls.length := by
  unfold textL
  induction ls with
  | nil => simp
  | cons l ls ih =>
    have h1 := h l (by simp)
    have h2 := lineB_size h1.key h1.most h1.per h1.burst
    have h3 := ih (fun x hx => h x (by simp [hx]))
    simp only [List.flatMap_cons, List.length_append, List.length_cons]
    have : (lineB l).data.toList.length = (lineB l).size := rfl
    omega

end Go.Proofs.YtinnckbffblecaaGreatDoor
