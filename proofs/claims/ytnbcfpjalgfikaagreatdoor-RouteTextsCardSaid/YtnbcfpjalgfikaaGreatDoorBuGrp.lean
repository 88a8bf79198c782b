/- Several texts in one. (1) A strings.Builder wherever it lies: alone, or as the first thing of another struct (the block's type is T). The walks are the shelf's own, at a block of any type. Conditions: modest sizes. (2) A Builder's bytes in the words of these texts. Conditions: modest sizes. -/
import Derived.Test.YtnbcfpjalgfikaaGreatDoorOwn
import Derived.Test.YtnbcfpjalgfikaaGreatDoorShelf
import Derived.Shelf.Strings.Builder1

namespace Go.Proofs.YtnbcfpjalgfikaaGreatDoor
open Go.RowKit
set_option linter.unusedVariables false
set_option linter.unusedSimpArgs false

/-- a block of type T of two cells begins with a Builder -/
structure BuT (T : TypeId) : Prop where
  lies : liesAt Tryz.prog Tryz.prog.depth T (2 / Tryz.prog.cellsOf T) 0 49 1 = true
  ne : T ≠ 5
theorem buT_self : BuT 49 := ⟨by kernel_rfl, by decide⟩
theorem sizeBuilder : (Tryz.prog.info? 49).map (·.size) = some 2 := by kernel_rfl
theorem infoByte : (Tryz.prog.info? 5).map (fun i => (i.zero, i.size, i.bytes)) = some (some (.int .u8 0), 1, 1) := by kernel_rfl

/-- every block but b that is no plain row of bytes stays as it was -/
def Keep (b : Nat) (w w' : World) : Prop := ∀ k, k < w.heap.size → k ≠ b → (∀ cur, w.heap[k]? ≠ some (.cells cur 5 (0, 0))) → w'.heap[k]? = w.heap[k]?
theorem Keep.check {b : Nat} {w w1 : World} (h : w1 = w ∨ w1 = w.setCell ⟨b, 0, none⟩ (.pointer (some ⟨b, 0, none⟩))) (k : Nat) (hk : k ≠ b) : w1.heap[k]? = w.heap[k]? := by
  rcases h with rfl | rfl
  · rfl
  · simp only [World.setCell]
    rw [Array.getElem?_modify, if_neg (Ne.symm hk)]
section
variable {T : TypeId}
set_option maxHeartbeats 1000000 in
set_option maxRecDepth 100000 in
theorem bu_check_used (b : Nat) (w : World) (h0 : w.cell? ⟨b, 0, none⟩ = some (.pointer (some ⟨b, 0, none⟩))) :
    Calls Tryz.prog 42 #[.pointer (some ⟨b, 0, none⟩)] w fun e w' => e = .returned (.tuple #[]) ∧ w' = w := by
  obtain ⟨j, hj, _⟩ := Option.map_eq_some_iff.1 sizeBuilder
  go_enter Tryz.func42, Tryz.ntmps42
  go_wp2
  rw [Lib.run_neq_ptr_same w _ Tryz.underlying46 hj]
  go_wp2
  go_end0
  exact ⟨rfl, rfl⟩
set_option maxHeartbeats 1000000 in
set_option maxRecDepth 100000 in
theorem bu_check_fresh (hT : BuT T) (b : Nat) (w : World) (h0 : w.cell? ⟨b, 0, none⟩ = some (.pointer none)) (hsh : w.shape? b = some (T, 2)) (hfz : w.frozen? ⟨b, 0, none⟩ = false) :
    Calls Tryz.prog 42 #[.pointer (some ⟨b, 0, none⟩)] w fun e w' => e = .returned (.tuple #[]) ∧ w' = w.setCell ⟨b, 0, none⟩ (.pointer (some ⟨b, 0, none⟩)) := by
  obtain ⟨j, hj, hjs⟩ := Option.map_eq_some_iff.1 sizeBuilder
  go_enter Tryz.func42, Tryz.ntmps42
  go_wp2
  rw [Lib.run_to_unsafe w ⟨b, 0, none⟩ Tryz.underlying46 Tryz.underlying110 hj (by rw [hjs]; decide) hsh (Nat.zero_lt_succ 1)]
  simp only [Result.andThen]
  rw [Oper.upon_value]
  go_wp2
  rw [run_callFunc_extern Tryz.func71 (by kernel_rfl) (by kernel_rfl) (by kernel_rfl) (e := Extern.AbiNoEscape.same) (by kernel_rfl)]
  rw [Lib.run_noEscape]
  simp only [Result.andThen]
  rw [Oper.upon_value]
  go_wp2
  rw [Lib.run_from_unsafe w ⟨b, 0, none⟩ Tryz.underlying110 Tryz.underlying46 hj hsh hT.lies]
  simp only [Result.andThen]
  rw [Oper.upon_value]
  go_wp2
  go_end0
  exact ⟨rfl, rfl⟩
theorem bu_check (hT : BuT T) (B b : Nat) (bs : List Value) (w : World) (h : Lib.IsBuilder T 5 B b bs w) :
    Calls Tryz.prog 42 #[.pointer (some ⟨b, 0, none⟩)] w fun e w' => e = .returned (.tuple #[]) ∧ (Lib.BuilderAt T 5 B b (.pointer (some ⟨b, 0, none⟩)) bs w' ∧ Below B w w' ∧ (w' = w ∨ w' = w.setCell ⟨b, 0, none⟩ (.pointer (some ⟨b, 0, none⟩)))) := by
  rcases h with h | h
  · refine (bu_check_fresh hT b w h.cell0 h.shape h.frozen0).mono ?_
    rintro e w' ⟨rfl, rfl⟩
    exact ⟨rfl, h.used _, (Below.refl B w).setCell (p := ⟨b, 0, none⟩) h.1 _, .inr rfl⟩
  · refine (bu_check_used b w h.cell0).mono ?_
    rintro e w' ⟨rfl, rfl⟩
    exact ⟨rfl, h, Below.refl B _, .inl rfl⟩
set_option maxHeartbeats 1000000 in
set_option maxRecDepth 100000 in
theorem bu_len (B b : Nat) (bs : List Value) (w : World) (h : Lib.IsBuilder T 5 B b bs w) :
    Calls Tryz.prog 19 #[.pointer (some ⟨b, 0, none⟩)] w fun e w' => e = .returned (.int .i64 bs.length) ∧ w' = w := by
  obtain ⟨p, hB, v, hbk, hown, hne⟩ : ∃ p, Lib.BuilderAt T 5 B b p bs w := by
    rcases h with h | h
    · exact ⟨_, h⟩
    · exact ⟨_, h⟩
  obtain ⟨ao, cap, rfl⟩ : ∃ ao cap, v = .slice ao bs.length cap := by
    rcases hown.2 with ⟨hv, h0⟩ | ⟨g, cap, cur, hv, _⟩
    · exact ⟨none, 0, by rw [hv, h0]⟩
    · exact ⟨_, _, hv⟩
  have c1 : w.cell? ⟨b, 1, none⟩ = some (.slice ao bs.length cap) := by rw [Lib.cell_of_heap hbk]; rfl
  go_enter Tryz.func19, Tryz.ntmps19
  go_wp2
  go_ret
  exact ⟨rfl, rfl⟩
set_option maxHeartbeats 2000000 in
set_option maxRecDepth 100000 in
theorem bu_byte (hT : BuT T) (B b : Nat) (bs : List Value) (c : Int) (w : World) (h : Lib.IsBuilder T 5 B b bs w) (hlen : bs.length + 1 ≤ 140737488355328) (hBw : B ≤ w.heap.size) :
    Calls Tryz.prog 115 #[.pointer (some ⟨b, 0, none⟩), .int .u8 c] w fun e w' => e = .returned .nilIface ∧ (Lib.BuilderAt T 5 B b (.pointer (some ⟨b, 0, none⟩)) (bs ++ [.int .u8 c]) w' ∧ Below B w w' ∧ Keep b w w') := by
  obtain ⟨i0, hi, hz0, hz1, hz2⟩ := info_parts infoByte
  go_enter Tryz.func115, Tryz.ntmps115
  go_wp2_with fail
  refine (bu_check hT B b bs _ h).mono ?_
  rintro e w1 ⟨rfl, h1, hb1, hck⟩
  have HCK := Lib.hid hck
  clear hck
  obtain ⟨hB, v, hbk, hown, hne⟩ := h1
  have c0 : w1.cell? ⟨b, 0, none⟩ = some (.pointer (some ⟨b, 0, none⟩)) := by rw [Lib.cell_of_heap hbk]; rfl
  have c1 : w1.cell? ⟨b, 1, none⟩ = some v := by rw [Lib.cell_of_heap hbk]; rfl
  go_wp2_with (at_builtin; refine wpList_append_own _ rfl _ _ 47 rfl B 5 i0 (.int .u8 0) 1 1 Tryz.underlying47 hi hz0 hz1 hz2 rfl (by decide) _ _ _ rfl (hown.alloc _) ⟨w1.heap.size, 0, none⟩ 1 1 [.int .u8 c] rfl rfl ?c1 ?c2 ?c3 ?c4 ?c5 ?_)
  case c1 =>
    intro j u hj
    match j, hj with
    | 0, hj => simp at hj; subst hj; simp [Addr.add]
  case c2 => intro u hu; simp at hu; subst hu; rfl
  case c3 => unfold maxLen; omega
  case c4 => omega
  case c5 => have := hb1.size; simp; omega
  intro v' w2 hown' hgrow _
  have hlt : b < w1.heap.size := heap_lt hbk
  have hb2 : w2.heap[b]? = some (.cells #[.pointer (some ⟨b, 0, none⟩), v] T (0, 0)) := by
    rw [hgrow.block b (by simp; omega) (fun e => hne e.symm), Lib.alloc_old w1 _ b hlt]
    exact hbk
  have d0 : w2.cell? ⟨b, 0, none⟩ = some (.pointer (some ⟨b, 0, none⟩)) := by rw [Lib.cell_of_heap hb2]; rfl
  have d1 : w2.cell? ⟨b, 1, none⟩ = some v := by rw [Lib.cell_of_heap hb2]; rfl
  have f1 : w2.frozen? ⟨b, 1, none⟩ = false := Lib.frozen_of_heap hb2 1
  obtain ⟨g, cap, rfl⟩ : ∃ g cap, v' = .slice (some ⟨g, 0, none⟩) (bs.length + 1) cap := by
    rcases hown'.2 with ⟨_, h0⟩ | ⟨g, cap, cur, hv, _⟩
    · omega
    · exact ⟨g, cap, hv⟩
  go_wp2
  go_ret
  refine ⟨rfl, ?_, ?_, ?_⟩
  · exact Lib.BuilderAt.put (T := T) (e := 5) hB hb2 (bs' := bs ++ [.int .u8 c]) (by simpa using hown') hT.ne
  · exact ((hb1.alloc (by have := hb1.size; omega) _).grown hgrow (by have := hb1.size; simp; omega) (fun k hk => (hown.lt k hk).1)).setCell (p := ⟨b, 1, none⟩) hB _
  · intro k hk hkb hfr
    have h0 := Keep.check HCK.out k hkb
    have hk1 : k < w1.heap.size := by have := hb1.size; omega
    have hno : some k ≠ v.ownBlock := fun e => by
      rcases hown.2 with ⟨hv, _⟩ | ⟨g, cap, cur, hv, _, hg, _⟩
      · rw [hv] at e; simp [Value.ownBlock] at e
      · rw [hv] at e
        simp only [Value.ownBlock, Option.some.injEq] at e
        subst e
        exact hfr _ (h0.symm.trans hg)
    have h2 : w2.heap[k]? = w1.heap[k]? := (hgrow.block k (by simp; omega) hno).trans (Lib.alloc_old w1 _ k hk1)
    rw [← h0, ← h2]
    simp only [World.setCell]
    rw [Array.getElem?_modify, if_neg (Ne.symm hkb)]
set_option maxHeartbeats 2000000 in
set_option maxRecDepth 100000 in
theorem bu_string (hT : BuT T) (B b : Nat) (bs : List Value) (s : ByteArray) (w : World) (h : Lib.IsBuilder T 5 B b bs w) (hlen : bs.length + s.size ≤ 140737488355328) (hBw : B ≤ w.heap.size) :
    Calls Tryz.prog 18 #[.pointer (some ⟨b, 0, none⟩), .string s] w fun e w' => e = .returned (.tuple #[.int .i64 s.size, .nilIface]) ∧ (Lib.BuilderAt T 5 B b (.pointer (some ⟨b, 0, none⟩)) (bs ++ Lib.strCells s) w' ∧ Below B w w' ∧ Keep b w w') := by
  obtain ⟨i0, hi, hz0, hz1, hz2⟩ := info_parts infoByte
  go_enter Tryz.func18, Tryz.ntmps18
  go_wp2_with fail
  refine (bu_check hT B b bs _ h).mono ?_
  rintro e w1 ⟨rfl, h1, hb1, hck⟩
  have HCK := Lib.hid hck
  clear hck
  obtain ⟨hB, v, hbk, hown, hne⟩ := h1
  have c0 : w1.cell? ⟨b, 0, none⟩ = some (.pointer (some ⟨b, 0, none⟩)) := by rw [Lib.cell_of_heap hbk]; rfl
  have c1 : w1.cell? ⟨b, 1, none⟩ = some v := by rw [Lib.cell_of_heap hbk]; rfl
  go_wp2_with (at_builtin; refine Lib.wpList_append_own_string _ rfl _ _ 47 9 rfl B 5 i0 Tryz.underlying47 Tryz.underlying9 hi hz0 hz1 hz2 _ _ _ rfl hown s rfl ?c3 ?c4 ?c5 ?_)
  case c3 => unfold maxLen; omega
  case c4 => omega
  case c5 => have := hb1.size; omega
  intro v' w2 hown' hgrow _
  have hlt : b < w1.heap.size := heap_lt hbk
  have hb2 : w2.heap[b]? = some (.cells #[.pointer (some ⟨b, 0, none⟩), v] T (0, 0)) := by
    rw [hgrow.block b hlt (fun e => hne e.symm)]
    exact hbk
  have d0 : w2.cell? ⟨b, 0, none⟩ = some (.pointer (some ⟨b, 0, none⟩)) := by rw [Lib.cell_of_heap hb2]; rfl
  have d1 : w2.cell? ⟨b, 1, none⟩ = some v := by rw [Lib.cell_of_heap hb2]; rfl
  have f1 : w2.frozen? ⟨b, 1, none⟩ = false := Lib.frozen_of_heap hb2 1
  obtain ⟨ao, n', cap, rfl⟩ : ∃ ao n' cap, v' = .slice ao n' cap := by
    rcases hown'.2 with ⟨hv, _⟩ | ⟨g, cap, cur, hv, _⟩
    · exact ⟨_, _, _, hv⟩
    · exact ⟨_, _, _, hv⟩
  go_wp2
  go_ret2
  refine ⟨rfl, ?_, ?_, ?_⟩
  · exact Lib.BuilderAt.put (T := T) (e := 5) hB hb2 (bs' := bs ++ Lib.strCells s) (by simpa [Lib.strCells_length] using hown') hT.ne
  · exact (hb1.grown hgrow (by have := hb1.size; omega) (fun k hk => (hown.lt k hk).1)).setCell (p := ⟨b, 1, none⟩) hB _
  · intro k hk hkb hfr
    have h0 := Keep.check HCK.out k hkb
    have hk1 : k < w1.heap.size := by have := hb1.size; omega
    have hno : some k ≠ v.ownBlock := fun e => by
      rcases hown.2 with ⟨hv, _⟩ | ⟨g, cap, cur, hv, _, hg, _⟩
      · rw [hv] at e; simp [Value.ownBlock] at e
      · rw [hv] at e
        simp only [Value.ownBlock, Option.some.injEq] at e
        subst e
        exact hfr _ (h0.symm.trans hg)
    have h2 : w2.heap[k]? = w1.heap[k]? := hgrow.block k hk1 hno
    rw [← h0, ← h2]
    simp only [World.setCell]
    rw [Array.getElem?_modify, if_neg (Ne.symm hkb)]
end

end Go.Proofs.YtnbcfpjalgfikaaGreatDoor

namespace Go.Proofs.YtnbcfpjalgfikaaGreatDoor
open Go.RowKit
set_option linter.unusedVariables false
set_option linter.unusedSimpArgs false

/-- a Builder at the head of block b (of type T) that holds the bytes l, its buffer from B on -/
abbrev Bw (T : TypeId) (B b : Nat) (l : List UInt8) (w : World) : Prop := Lib.IsBuilder T 5 B b (Lib.byteCells l) w
theorem Mod.of_belowB {B : Nat} {w w' : World} (h : Below B w w') : Mod (fun k => B ≤ k) w w' :=
  ⟨h.os, h.tape, h.output, h.size, fun i hi hs => h.block i (by omega)⟩
theorem New.grownBy {w w' : World} (h : New w w') (row : Option Nat) : w.grownBy w' row :=
  ⟨h.os, h.tape, h.output, h.size, fun k hk _ => h.block k hk (fun e => e)⟩
/-- what turned from B on, where w ends, is new -/
theorem New.from {B : Nat} {w w1 w2 : World} (h : New w w1) (hm : Mod (fun k => B ≤ k) w1 w2) (hB : w.heap.size ≤ B) : New w w2 :=
  h.step hm (fun i hi e => by omega)
theorem Keep.refl (b : Nat) (w : World) : Keep b w w := fun _ _ _ _ => rfl
theorem Keep.new {b : Nat} {w w' : World} (h : New w w') : Keep b w w' := fun k hk _ _ => h.block k hk (fun e => e)
theorem Keep.trans {b : Nat} {w w1 w2 : World} (h : Keep b w w1) (h1 : Keep b w1 w2) (hs : w.heap.size ≤ w1.heap.size) : Keep b w w2 := fun k hk hb hf => by
  have e := h k hk hb hf
  exact (h1 k (by omega) hb (fun cur => by rw [e]; exact hf cur)).trans e
theorem Blk.keep {b k : Nat} {t : TypeId} {cs : Array Value} {w w' : World} (h : Blk w k t cs) (hkp : Keep b w w') (hk : k ≠ b) (ht : t ≠ 5) : Blk w' k t cs :=
  (hkp k (heap_lt h) hk (fun cur e => by
    rw [show w.heap[k]? = some (.cells cs t (0, 0)) from h] at e
    injection e with e
    injection e with _ e2
    exact ht e2)).trans h
theorem Mod.keep {b B : Nat} {w w' : World} (hm : Mod (fun k => B ≤ k) w w') (hkp : Keep b w w') : Mod (fun k => k = b ∨ TB w k 5) w w' :=
  ⟨hm.os, hm.tape, hm.output, hm.size, fun i hi hs => hkp i hi (fun e => hs (.inl e)) (fun cur e => hs (.inr ⟨cur, _, e⟩))⟩
section
variable {T : TypeId}
theorem Bw.fresh {w : World} {B b : Nat} (hb : Blk w b T #[.pointer none, .slice none 0 0]) (hB : B ≤ b) : Bw T B b [] w :=
  .inl ⟨hB, .slice none 0 0, hb, World.ownsRow_nil _ _ _ _, by simp [Value.ownBlock]⟩
theorem Bw.new {B b : Nat} {l : List UInt8} {w w' : World} (h : Bw T B b l w) (hm : New w w') : Bw T B b l w' := by
  have key : ∀ p, Lib.BuilderAt T 5 B b p (Lib.byteCells l) w → Lib.BuilderAt T 5 B b p (Lib.byteCells l) w' := fun p ⟨h1, v, h2, h3, h4⟩ =>
    ⟨h1, v, (hm.block b (heap_lt h2) (fun e => e)).trans h2, h3.kept (hm.grownBy none) (by cases v.ownBlock with | none => exact .inl rfl | some k => exact .inr (by simp)), h4⟩
  exact h.imp (key _) (key _)
theorem Bw.lt {B b : Nat} {l : List UInt8} {w : World} (h : Bw T B b l w) : B ≤ b ∧ b < w.heap.size := by
  rcases h with ⟨h1, v, h2, _⟩ | ⟨h1, v, h2, _⟩
  · exact ⟨h1, heap_lt h2⟩
  · exact ⟨h1, heap_lt h2⟩
theorem bw_byte (hT : BuT T) (B b : Nat) (l : List UInt8) (c : UInt8) (n : Int) (hc : n = c.toNat) (w : World) (h : Bw T B b l w) (hn : l.length + 1 ≤ 1000000) :
    Calls Tryz.prog 115 #[.pointer (some ⟨b, 0, none⟩), .int .u8 n] w fun e w' => e = .returned .nilIface ∧ Bw T B b (l ++ [c]) w' ∧ Mod (fun k => B ≤ k) w w' ∧ Keep b w w' := by
  subst hc
  have hlt := h.lt
  refine (bu_byte hT B b (Lib.byteCells l) c.toNat w h (by rw [Lib.byteCells_length]; omega) (by omega)).mono ?_
  rintro e w' ⟨rfl, hb, hm, hkp⟩
  refine ⟨rfl, .inr ?_, Mod.of_belowB hm, hkp⟩
  rw [Lib.byteCells_append]
  exact hb
theorem bw_len (B b : Nat) (l : List UInt8) (w : World) (h : Bw T B b l w) :
    Calls Tryz.prog 19 #[.pointer (some ⟨b, 0, none⟩)] w fun e w' => e = .returned (.int .i64 l.length) ∧ w' = w := by
  have := bu_len B b (Lib.byteCells l) w h
  rwa [Lib.byteCells_length] at this
end

end Go.Proofs.YtnbcfpjalgfikaaGreatDoor
