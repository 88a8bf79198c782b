/- Tools for texts: strconv's table and Itoa, strings.Builder, Split and Cut, words and lines of a text. Conditions: modest sizes, the library's variables as they should lie. -/
import Derived.Test.YtnbcfpjalgfikaaGreatDoorStream
import Derived.Test.YtnbcfpjalgfikaaGreatDoorShelf
import Derived.Test.YtnbcfpjalgfikaaGreatDoorOwn
import Derived.Lib.LaidTab
import Derived.Lib.ItoaLen
import Derived.Lib.AtoiErrMem
import Derived.Lib.SplitLaws
import Derived.Lib.SlicesS
namespace Go.Proofs.YtnbcfpjalgfikaaGreatDoor
open Go.RowKit
set_option linter.unusedVariables false
set_option linter.unusedSimpArgs false

/-- strconv's table of powers of ten lies as its initialiser lays it -/
def Pow10 (w : World) : Prop := Lib.TabIs Tryz.prog w "internal/strconv.uint64pow10" .u64 Lib.pow10Tab
theorem Pow10.new {w w' : World} (h : Pow10 w) (hm : New w w') : Pow10 w' := by
  unfold Pow10 Lib.TabIs World.var? at *
  cases hg : Tryz.prog.globalNamed "internal/strconv.uint64pow10" with
  | none => rw [hg] at h; simp at h
  | some g =>
    rw [hg] at h
    simp only [Option.bind_some] at h ⊢
    have hlt : g < w.heap.size := by
      rcases Nat.lt_or_ge g w.heap.size with hlt | hge
      · exact hlt
      · rw [Array.getElem?_eq_none hge] at h; simp at h
    rw [hm.block g hlt (fun e => e)]
    exact h

theorem New.grow (w : World) (k : Nat) (os : Array Obj) : New w (Sort.grow (w.drewN k) os) :=
  ⟨rfl, rfl, rfl, by rw [Sort.size_grow]; exact Nat.le_add_right _ _, fun i hi _ => Sort.heap_grow_old (w.drewN k) os hi⟩

def itoaB (n : Int) : ByteArray := ⟨(Lib.itoa n).toArray⟩
theorem itoa_any (n : Int) (h : I64 n) (w : World) (ht : Pow10 w) : Calls Tryz.prog 107 #[.int .i64 n] w fun e w' => e = .returned (.string (itoaB n)) ∧ New w w' :=
  (Tryz.strconv_Itoa n h.1 h.2 w ht).mono (by rintro e w' ⟨rfl, k, os, rfl⟩; exact ⟨rfl, New.grow w k os⟩)

/-- a Builder in block b that holds the bytes l, its buffer from B on -/
abbrev Bld (B b : Nat) (l : List UInt8) (w : World) : Prop := Lib.IsBuilder 49 5 B b (Lib.byteCells l) w
theorem Mod.of_belowB {B : Nat} {w w' : World} (h : Below B w w') : Mod (fun k => B ≤ k) w w' :=
  ⟨h.os, h.tape, h.output, h.size, fun i hi hs => h.block i (by omega)⟩
theorem New.grownBy {w w' : World} (h : New w w') (row : Option Nat) : w.grownBy w' row :=
  ⟨h.os, h.tape, h.output, h.size, fun k hk _ => h.block k hk (fun e => e)⟩
theorem Bld.fresh {w : World} {B b : Nat} (hb : Blk w b 49 #[.pointer none, .slice none 0 0]) (hB : B ≤ b) : Bld B b [] w :=
  .inl ⟨hB, .slice none 0 0, hb, World.ownsRow_nil _ _ _ _, by simp [Value.ownBlock]⟩
theorem Bld.new {B b : Nat} {l : List UInt8} {w w' : World} (h : Bld B b l w) (hm : New w w') : Bld B b l w' := by
  have key : ∀ p, Lib.BuilderAt 49 5 B b p (Lib.byteCells l) w → Lib.BuilderAt 49 5 B b p (Lib.byteCells l) w' := fun p ⟨h1, v, h2, h3, h4⟩ =>
    ⟨h1, v, (hm.block b (heap_lt h2) (fun e => e)).trans h2, h3.kept (hm.grownBy none) (by cases v.ownBlock with | none => exact .inl rfl | some k => exact .inr (by simp)), h4⟩
  exact h.imp (key _) (key _)
theorem Bld.lt {B b : Nat} {l : List UInt8} {w : World} (h : Bld B b l w) : B ≤ b ∧ b < w.heap.size := by
  rcases h with ⟨h1, v, h2, _⟩ | ⟨h1, v, h2, _⟩
  · exact ⟨h1, heap_lt h2⟩
  · exact ⟨h1, heap_lt h2⟩
theorem bld_string (B b : Nat) (l : List UInt8) (w : World) (h : Bld B b l w) :
    Calls Tryz.prog 20 #[.pointer (some ⟨b, 0, none⟩)] w fun e w' => e = .returned (.string ⟨l.toArray⟩) ∧ Mod (fun k => B ≤ k) w w' := by
  have hlt := h.lt
  refine (Tryz.Builder_String_any B b l w h (by omega)).mono ?_
  rintro e w' ⟨rfl, hm⟩
  exact ⟨rfl, Mod.of_belowB hm⟩

/-- what turns only behind w0's end leaves the table -/
theorem Pow10.mod {S : Nat → Prop} {w0 w w' : World} (h0 : Pow10 w0) (h : Pow10 w) (hm : Mod S w w') (hS : ∀ g, g < w0.heap.size → ¬ S g) : Pow10 w' := by
  unfold Pow10 Lib.TabIs World.var? at *
  cases hg : Tryz.prog.globalNamed "internal/strconv.uint64pow10" with
  | none => rw [hg] at h; simp at h
  | some g =>
    rw [hg] at h h0
    simp only [Option.bind_some] at h h0 ⊢
    have l0 : g < w0.heap.size := by
      rcases Nat.lt_or_ge g w0.heap.size with hlt | hge
      · exact hlt
      · rw [Array.getElem?_eq_none hge] at h0; simp at h0
    have l1 : g < w.heap.size := by
      rcases Nat.lt_or_ge g w.heap.size with hlt | hge
      · exact hlt
      · rw [Array.getElem?_eq_none hge] at h; simp at h
    rw [hm.block g l1 (hS g l0)]
    exact h

abbrev sp : ByteArray := ⟨#[32]⟩
abbrev nl : ByteArray := ⟨#[10]⟩
def pieces (t sep : ByteArray) : List ByteArray := Lib.splitB sep 0 (Lib.countB t sep) t
theorem pieces_length {t sep : ByteArray} (h : 1 ≤ sep.size) : (pieces t sep).length = Lib.countB t sep + 1 := Lib.splitB_all sep h 0 _ t rfl
theorem pieces_hit {t sep : ByteArray} {i : Nat} (h1 : 1 ≤ sep.size) (h : Lib.indexB t sep = i) : pieces t sep = t.extract 0 i :: pieces (t.extract (i + sep.size) t.size) sep := by
  unfold pieces
  rw [Lib.countB_hit t sep i h1 h, Nat.add_comm 1, Lib.splitB_hit sep 0 _ t i h]
  rfl
theorem pieces_miss {t sep : ByteArray} (h : Lib.indexB t sep = -1) : pieces t sep = [t] := by
  unfold pieces
  rw [Lib.splitB_miss sep 0 _ t h]
theorem pieces_ne {t sep : ByteArray} (h : 1 ≤ sep.size) : pieces t sep ≠ [] := fun e => by
  have := pieces_length (t := t) h
  rw [e] at this
  simp at this

/-- no word is longer than its line -/
theorem splitB_le (sep : ByteArray) : ∀ (k : Nat) (s : ByteArray), ∀ x ∈ Lib.splitB sep 0 k s, x.size ≤ s.size
  | 0, s, x, hx => by
    simp only [Lib.splitB, List.mem_singleton] at hx
    rw [hx]; exact Nat.le_refl _
  | k + 1, s, x, hx => by
    rcases Lib.indexB_cases s sep with h | ⟨i, h, hi⟩
    · rw [Lib.splitB_miss sep 0 _ s h] at hx
      simp only [List.mem_singleton] at hx
      rw [hx]; exact Nat.le_refl _
    · rw [Lib.splitB_hit sep 0 k s i h] at hx
      rcases List.mem_cons.1 hx with rfl | hx
      · simp only [ByteArray.size_extract]; omega
      · have := splitB_le sep k _ x hx
        simp only [ByteArray.size_extract] at this
        omega
theorem pieces_le {t sep : ByteArray} {x : ByteArray} (hx : x ∈ pieces t sep) : x.size ≤ t.size := splitB_le sep _ t x hx

/-- the library's variable on searching is an int -/
def MaxLn (w : World) : Prop := ∃ m, w.cell? ⟨0, 0, none⟩ = some (.int .i64 m)
theorem MaxLn.new {w w' : World} (h : MaxLn w) (hm : New w w') : MaxLn w' := by
  obtain ⟨m, hc⟩ := h
  have hlt : 0 < w.heap.size := by
    rcases Nat.lt_or_ge 0 w.heap.size with hlt | hge
    · exact hlt
    · simp [World.cell?, Array.getElem?_eq_none hge] at hc
  exact ⟨m, (hm.cell (p := ⟨0, 0, none⟩) hlt (fun e => e)).trans hc⟩
theorem str_nil (z : ByteArray) : (z.toList == []) = decide (z = ⟨#[]⟩) := by
  rw [Bool.eq_iff_iff, ByteArray.toList_eq]
  simp only [beq_iff_eq, decide_eq_true_eq]
  constructor
  · intro h
    exact ByteArray.ext (Array.toList_inj.mp h)
  · rintro rfl
    rfl
def strCs (ws : List ByteArray) : Array Value := (ws.map Value.string).toArray
theorem strs_at {w : World} {g : Nat} {ws : List ByteArray} (h : Blk w g 9 (strCs ws)) (j : Nat) (hj : j < ws.length) : w.cell? ⟨g, j, none⟩ = some (.string (ws.getD j ByteArray.empty)) := by
  rw [h.cell j]
  unfold strCs
  simp [List.getD_eq_getElem?_getD, hj]
theorem split_any (t : ByteArray) (c : UInt8) (w : World) (hs : t.size ≤ 1000000) (hx : MaxLn w) :
    Calls Tryz.prog 25 #[.string t, .string ⟨#[c]⟩] w fun e w' => e = .returned (.slice (some ⟨w.heap.size, 0, none⟩) (pieces t ⟨#[c]⟩).length (pieces t ⟨#[c]⟩).length) ∧ w' = w.alloc (.cells (strCs (pieces t ⟨#[c]⟩)) 9) := by
  obtain ⟨m, hm⟩ := hx
  rw [pieces_length (show 1 ≤ (⟨#[c]⟩ : ByteArray).size from Nat.le_refl _)]
  exact Tryz.strings_Split t ⟨#[c]⟩ m w (by omega) hm (Nat.le_refl _)

theorem MaxLn.mod {S : Nat → Prop} {w0 w w' : World} (h0 : MaxLn w0) (h : MaxLn w) (hm : Mod S w w') (hS : ∀ g, g < w0.heap.size → ¬ S g) : MaxLn w' := by
  have key : ∀ W, MaxLn W → 0 < W.heap.size := fun W ⟨m, hc⟩ => by
    rcases Nat.lt_or_ge 0 W.heap.size with hlt | hge
    · exact hlt
    · simp [World.cell?, Array.getElem?_eq_none hge] at hc
  obtain ⟨m, hc⟩ := h
  exact ⟨m, (hm.cell (p := ⟨0, 0, none⟩) (key w ⟨m, hc⟩) (hS _ (key w0 h0))).trans hc⟩
theorem cut_any (t : ByteArray) (w : World) (hs : t.size ≤ 1000000) (hx : MaxLn w) :
    (Lib.indexB t nl = -1 ∧ Calls Tryz.prog 58 #[.string t, .string ⟨#[10]⟩] w fun e w' => e = .returned (.tuple #[.string t, .string ⟨#[]⟩, .bool false]) ∧ ∃ n, w' = w.drewN n) ∨
    ∃ i : Nat, Lib.indexB t nl = i ∧ i + 1 ≤ t.size ∧ Calls Tryz.prog 58 #[.string t, .string ⟨#[10]⟩] w fun e w' => e = .returned (.tuple #[.string (t.extract 0 i), .string (t.extract (i + 1) t.size), .bool true]) ∧ ∃ n, w' = w.drewN n := by
  obtain ⟨m, hm⟩ := hx
  have hc := Tryz.strings_Cut t nl m w (by omega) hm
  rcases Lib.indexB_cases t nl with h | ⟨i, h, hi⟩
  · left
    obtain ⟨q1, q2, q3⟩ := Lib.cutB_miss t nl h
    rw [q1, q2, q3] at hc
    exact ⟨h, hc⟩
  · right
    obtain ⟨q1, q2, q3⟩ := Lib.cutB_hit t nl i h
    rw [q1, q2, q3] at hc
    exact ⟨i, h, hi, hc⟩

theorem bytes_new (w : World) (e : TypeId) (t : ByteArray) : New w (Lib.bytesWorld w e t) := Mod.of_below (Lib.bytesWorld_below w e t)

set_option maxHeartbeats 1000000 in
theorem kit_words (t : ByteArray) (w : World) (hs : t.size ≤ 1000000) (hx : MaxLn w) :
    Calls Tryz.prog 60 #[.string t] w fun e w' => e = .returned (.tuple #[.slice (some ⟨w.heap.size, 0, none⟩) (pieces t sp).length (pieces t sp).length, .bool (!Lib.containsS (pieces t sp) ⟨#[]⟩)]) ∧ w' = w.alloc (.cells (strCs (pieces t sp)) 9) := by
  have hsp := split_any t 32 w hs hx
  have hlen : (pieces t sp).length ≤ 1000001 := by
    rw [pieces_length (show 1 ≤ (sp : ByteArray).size from Nat.le_refl _)]
    have := Lib.countB_le sp (Nat.le_refl _) t.size t (Nat.le_refl _)
    omega
  generalize pieces t sp = P at *
  have hb := Blk.new w 9 (strCs P)
  have hct := Tryz.slices_Contains_string w.heap.size 0 P.length P.length P ⟨#[]⟩ (w.alloc (.cells (strCs P) 9)) (Nat.le_refl _) (by omega) (fun j hj => by rw [Nat.zero_add]; exact strs_at hb j hj)
  rw [List.take_of_length_le (Nat.le_refl _)] at hct
  generalize Lib.containsS P ⟨#[]⟩ = X at *
  clear hb hx
  go_enter Tryz.func60, Tryz.ntmps60
  go_wp2_with fail
  refine hsp.mono ?_
  clear hsp
  rintro e w1 ⟨rfl, rfl⟩
  generalize hw1 : w.alloc (.cells (strCs P) 9) = w1 at *
  have HW1 := Lib.hid hw1
  clear hw1
  go_wp2_with fail
  refine hct.mono ?_
  clear hct
  rintro e w2 ⟨rfl, rfl⟩
  go_wp2_with fail
  go_ret2
  exact ⟨rfl, HW1.out.symm⟩

/-- what kit.Lines gives: the lines, and whether the last one is ended -/
def RLines (t : ByteArray) (w : World) (e : Ending) (w' : World) : Prop :=
  e = .returned (.tuple #[.slice (some ⟨w.heap.size, 0, none⟩) (if (pieces t nl).getLast? = some ⟨#[]⟩ then (pieces t nl).length - 1 else (pieces t nl).length) (pieces t nl).length, .bool (decide ((pieces t nl).getLast? = some ⟨#[]⟩))]) ∧ w' = w.alloc (.cells (strCs (pieces t nl)) 9)
set_option maxHeartbeats 1000000 in
theorem kit_lines (t : ByteArray) (w : World) (hs : t.size ≤ 1000000) (hx : MaxLn w) :
    Calls Tryz.prog 27 #[.string t] w (RLines t w) := by
  have hsp := split_any t 10 w hs hx
  have hlen : (pieces t nl).length ≤ 1000001 := by
    rw [pieces_length (show 1 ≤ (nl : ByteArray).size from Nat.le_refl _)]
    have := Lib.countB_le nl (Nat.le_refl _) t.size t (Nat.le_refl _)
    omega
  have hpos : 1 ≤ (pieces t nl).length := by rw [pieces_length (show 1 ≤ (nl : ByteArray).size from Nat.le_refl _)]; omega
  have HR : Hid (∀ e w', (e = .returned (.tuple #[.slice (some ⟨w.heap.size, 0, none⟩) (if (pieces t nl).getLast? = some ⟨#[]⟩ then (pieces t nl).length - 1 else (pieces t nl).length) (pieces t nl).length, .bool (decide ((pieces t nl).getLast? = some ⟨#[]⟩))]) ∧ w' = w.alloc (.cells (strCs (pieces t nl)) 9)) → RLines t w e w') := Lib.hid (fun e w' h => h)
  generalize pieces t nl = P at *
  have hb := Blk.new w 9 (strCs P)
  have hlast := strs_at hb (P.length - 1) (by omega)
  have hgl : P.getLast? = some (P.getD (P.length - 1) ByteArray.empty) := by
    rw [List.getLast?_eq_getElem?, List.getD_eq_getElem?_getD, List.getElem?_eq_getElem (by omega)]
    rfl
  have hbl := hb.lt
  rw [hgl] at HR
  generalize P.getD (P.length - 1) ByteArray.empty = z at *
  obtain ⟨n, hn⟩ : ∃ n, P.length = n + 1 := ⟨P.length - 1, by omega⟩
  have hn1 : P.length - 1 = n := by omega
  rw [hn1] at hlast HR
  rw [hn] at hsp hlen hpos HR
  have HW := Lib.hid (Eq.refl (w.alloc (.cells (strCs P) 9)))
  clear hb hx hgl hn hn1
  by_cases hz : z = ⟨#[]⟩
  · have hz' : (z.toList == []) = true := by rw [str_nil]; simpa using hz
    rw [if_pos (by rw [hz])] at HR
    have hdd : decide (some z = some (⟨#[]⟩ : ByteArray)) = true := by simpa using hz
    rw [hdd] at HR
    clear hz hdd
    go_enter Tryz.func27, Tryz.ntmps27
    go_wp2_with fail
    refine hsp.mono ?_
    clear hsp
    rintro e w1 ⟨rfl, rfl⟩
    go_wp2_with fail
    go_ret2
    exact HR.out _ _ ⟨by simp, rfl⟩
  · have hz' : (z.toList == []) = false := by rw [str_nil]; simpa using hz
    rw [if_neg (by simpa using hz)] at HR
    have hdd : decide (some z = some (⟨#[]⟩ : ByteArray)) = false := by simpa using hz
    rw [hdd] at HR
    clear hz hdd
    go_enter Tryz.func27, Tryz.ntmps27
    go_wp2_with fail
    refine hsp.mono ?_
    clear hsp
    rintro e w1 ⟨rfl, rfl⟩
    go_wp2_with fail
    go_ret2
    exact HR.out _ _ ⟨rfl, rfl⟩

end Go.Proofs.YtnbcfpjalgfikaaGreatDoor
