/- Several texts in one. (1) A strings.Builder wherever it lies: alone, or as the first thing of another struct (the block's type is T). The walks are the shelf's own, at a block of any type. Conditions: modest sizes. (2) A Builder's bytes in the words of these texts. Conditions: modest sizes. (3) A Builder's bytes in the words of these texts; words in quotes: the program's. Conditions: modest sizes. -/
import Derived.Test.YtjmnkdkdjnmejaaGreatDoorBaseGrp
import Derived.Test.YtjmnkdkdjnmejaaGreatDoorShelf
import Derived.Shelf.Strings.Builder1

namespace Go.Proofs.YtjmnkdkdjnmejaaGreatDoor
open Go.RowKit
set_option linter.unusedVariables false
set_option linter.unusedSimpArgs false

/-- a block of type T of two cells begins with a Builder -/
structure BuT (T : TypeId) : Prop where
  lies : liesAt Tryz.prog Tryz.prog.depth T (2 / Tryz.prog.cellsOf T) 0 108 1 = true
  ne : T ≠ 5
theorem buT_self : BuT 108 := ⟨by kernel_rfl, by decide⟩
theorem sizeBuilder : (Tryz.prog.info? 108).map (·.size) = some 2 := by kernel_rfl
theorem infoByte : (Tryz.prog.info? 5).map (fun i => (i.zero, i.size, i.bytes)) = some (some (.int .u8 0), 1, 1) := by kernel_rfl

/-- every block but b that is no plain row of bytes stays as it was -/
def Keep (b : Nat) (w w' : World) : Prop := ∀ k, k < w.heap.size → k ≠ b → (∀ cur, w.heap[k]? ≠ some (.cells cur 5 (0, 0))) → w'.heap[k]? = w.heap[k]?
theorem Keep.check {b : Nat} {w w1 : World} (h : w1 = w ∨ w1 = w.setCell ⟨b, 0, none⟩ (.pointer (some ⟨b, 0, none⟩))) (k : Nat) (hk : k ≠ b) : w1.heap[k]? = w.heap[k]? := by
  rcases h with rfl | rfl
  · rfl
  · simp only [World.setCell]
    rw [Array.getElem?_modify, if_neg (Ne.symm hk)]
section
variable {T : TypeId}
set_option maxHeartbeats 1000000 in
set_option maxRecDepth 100000 in
theorem bu_check_used (b : Nat) (w : World) (h0 : w.cell? ⟨b, 0, none⟩ = some (.pointer (some ⟨b, 0, none⟩))) :
    Calls Tryz.prog 90 #[.pointer (some ⟨b, 0, none⟩)] w fun e w' => e = .returned (.tuple #[]) ∧ w' = w := by
  obtain ⟨j, hj, _⟩ := Option.map_eq_some_iff.1 sizeBuilder
  go_enter Tryz.func90, Tryz.ntmps90
  go_wp2
  rw [Lib.run_neq_ptr_same w _ Tryz.underlying105 hj]
  go_wp2
  go_end0
  exact ⟨rfl, rfl⟩
set_option maxHeartbeats 1000000 in
set_option maxRecDepth 100000 in
theorem bu_check_fresh (hT : BuT T) (b : Nat) (w : World) (h0 : w.cell? ⟨b, 0, none⟩ = some (.pointer none)) (hsh : w.shape? b = some (T, 2)) (hfz : w.frozen? ⟨b, 0, none⟩ = false) :
    Calls Tryz.prog 90 #[.pointer (some ⟨b, 0, none⟩)] w fun e w' => e = .returned (.tuple #[]) ∧ w' = w.setCell ⟨b, 0, none⟩ (.pointer (some ⟨b, 0, none⟩)) := by
  obtain ⟨j, hj, hjs⟩ := Option.map_eq_some_iff.1 sizeBuilder
  go_enter Tryz.func90, Tryz.ntmps90
  go_wp2
  rw [Lib.run_to_unsafe w ⟨b, 0, none⟩ Tryz.underlying105 Tryz.underlying189 hj (by rw [hjs]; decide) hsh (Nat.zero_lt_succ 1)]
  simp only [Result.andThen]
  rw [Oper.upon_value]
  go_wp2
  rw [run_callFunc_extern Tryz.func130 (by kernel_rfl) (by kernel_rfl) (by kernel_rfl) (e := Extern.AbiNoEscape.same) (by kernel_rfl)]
  rw [Lib.run_noEscape]
  simp only [Result.andThen]
  rw [Oper.upon_value]
  go_wp2
  rw [Lib.run_from_unsafe w ⟨b, 0, none⟩ Tryz.underlying189 Tryz.underlying105 hj hsh hT.lies]
  simp only [Result.andThen]
  rw [Oper.upon_value]
  go_wp2
  go_end0
  exact ⟨rfl, rfl⟩
theorem bu_check (hT : BuT T) (B b : Nat) (bs : List Value) (w : World) (h : Lib.IsBuilder T 5 B b bs w) :
    Calls Tryz.prog 90 #[.pointer (some ⟨b, 0, none⟩)] w fun e w' => e = .returned (.tuple #[]) ∧ (Lib.BuilderAt T 5 B b (.pointer (some ⟨b, 0, none⟩)) bs w' ∧ Below B w w' ∧ (w' = w ∨ w' = w.setCell ⟨b, 0, none⟩ (.pointer (some ⟨b, 0, none⟩)))) := by
  rcases h with h | h
  · refine (bu_check_fresh hT b w h.cell0 h.shape h.frozen0).mono ?_
    rintro e w' ⟨rfl, rfl⟩
    exact ⟨rfl, h.used _, (Below.refl B w).setCell (p := ⟨b, 0, none⟩) h.1 _, .inr rfl⟩
  · refine (bu_check_used b w h.cell0).mono ?_
    rintro e w' ⟨rfl, rfl⟩
    exact ⟨rfl, h, Below.refl B _, .inl rfl⟩
set_option maxHeartbeats 1000000 in
set_option maxRecDepth 100000 in
theorem bu_len (B b : Nat) (bs : List Value) (w : World) (h : Lib.IsBuilder T 5 B b bs w) :
    Calls Tryz.prog 125 #[.pointer (some ⟨b, 0, none⟩)] w fun e w' => e = .returned (.int .i64 bs.length) ∧ w' = w := by
  obtain ⟨p, hB, v, hbk, hown, hne⟩ : ∃ p, Lib.BuilderAt T 5 B b p bs w := by
    rcases h with h | h
    · exact ⟨_, h⟩
    · exact ⟨_, h⟩
  obtain ⟨ao, cap, rfl⟩ : ∃ ao cap, v = .slice ao bs.length cap := by
    rcases hown.2 with ⟨hv, h0⟩ | ⟨g, cap, cur, hv, _⟩
    · exact ⟨none, 0, by rw [hv, h0]⟩
    · exact ⟨_, _, hv⟩
  have c1 : w.cell? ⟨b, 1, none⟩ = some (.slice ao bs.length cap) := by rw [Lib.cell_of_heap hbk]; rfl
  go_enter Tryz.func125, Tryz.ntmps125
  go_wp2
  go_ret
  exact ⟨rfl, rfl⟩
set_option maxHeartbeats 2000000 in
set_option maxRecDepth 100000 in
theorem bu_byte (hT : BuT T) (B b : Nat) (bs : List Value) (c : Int) (w : World) (h : Lib.IsBuilder T 5 B b bs w) (hlen : bs.length + 1 ≤ 140737488355328) (hBw : B ≤ w.heap.size) :
    Calls Tryz.prog 57 #[.pointer (some ⟨b, 0, none⟩), .int .u8 c] w fun e w' => e = .returned .nilIface ∧ (Lib.BuilderAt T 5 B b (.pointer (some ⟨b, 0, none⟩)) (bs ++ [.int .u8 c]) w' ∧ Below B w w' ∧ Keep b w w') := by
  obtain ⟨i0, hi, hz0, hz1, hz2⟩ := info_parts infoByte
  go_enter Tryz.func57, Tryz.ntmps57
  go_wp2_with fail
  refine (bu_check hT B b bs _ h).mono ?_
  rintro e w1 ⟨rfl, h1, hb1, hck⟩
  have HCK := hId hck
  clear hck
  obtain ⟨hB, v, hbk, hown, hne⟩ := h1
  have c0 : w1.cell? ⟨b, 0, none⟩ = some (.pointer (some ⟨b, 0, none⟩)) := by rw [Lib.cell_of_heap hbk]; rfl
  have c1 : w1.cell? ⟨b, 1, none⟩ = some v := by rw [Lib.cell_of_heap hbk]; rfl
  go_wp2_with (at_builtin; refine wpList_append_own _ rfl _ _ 106 rfl B 5 i0 (.int .u8 0) 1 1 Tryz.underlying106 hi hz0 hz1 hz2 rfl (by decide) _ _ _ rfl (hown.alloc _) ⟨w1.heap.size, 0, none⟩ 1 1 [.int .u8 c] rfl rfl ?c1 ?c2 ?c3 ?c4 ?c5 ?_)
  case c1 =>
    intro j u hj
    match j, hj with
    | 0, hj => simp at hj; subst hj; simp [Addr.add]
  case c2 => intro u hu; simp at hu; subst hu; rfl
  case c3 => unfold maxLen; omega
  case c4 => omega
  case c5 => have := hb1.size; simp; omega
  intro v' w2 hown' hgrow _
  have hlt : b < w1.heap.size := heap_lt hbk
  have hb2 : w2.heap[b]? = some (.cells #[.pointer (some ⟨b, 0, none⟩), v] T (0, 0)) := by
    rw [hgrow.block b (by simp; omega) (fun e => hne e.symm), Lib.alloc_old w1 _ b hlt]
    exact hbk
  have d0 : w2.cell? ⟨b, 0, none⟩ = some (.pointer (some ⟨b, 0, none⟩)) := by rw [Lib.cell_of_heap hb2]; rfl
  have d1 : w2.cell? ⟨b, 1, none⟩ = some v := by rw [Lib.cell_of_heap hb2]; rfl
  have f1 : w2.frozen? ⟨b, 1, none⟩ = false := Lib.frozen_of_heap hb2 1
  obtain ⟨g, cap, rfl⟩ : ∃ g cap, v' = .slice (some ⟨g, 0, none⟩) (bs.length + 1) cap := by
    rcases hown'.2 with ⟨_, h0⟩ | ⟨g, cap, cur, hv, _⟩
    · omega
    · exact ⟨g, cap, hv⟩
  go_wp2
  go_ret
  refine ⟨rfl, ?_, ?_, ?_⟩
  · exact Lib.BuilderAt.put (T := T) (e := 5) hB hb2 (bs' := bs ++ [.int .u8 c]) (by simpa using hown') hT.ne
  · exact ((hb1.alloc (by have := hb1.size; omega) _).grown hgrow (by have := hb1.size; simp; omega) (fun k hk => (hown.lt k hk).1)).setCell (p := ⟨b, 1, none⟩) hB _
  · intro k hk hkb hfr
    have h0 := Keep.check HCK.out k hkb
    have hk1 : k < w1.heap.size := by have := hb1.size; omega
    have hno : some k ≠ v.ownBlock := fun e => by
      rcases hown.2 with ⟨hv, _⟩ | ⟨g, cap, cur, hv, _, hg, _⟩
      · rw [hv] at e; simp [Value.ownBlock] at e
      · rw [hv] at e
        simp only [Value.ownBlock, Option.some.injEq] at e
        subst e
        exact hfr _ (h0.symm.trans hg)
    have h2 : w2.heap[k]? = w1.heap[k]? := (hgrow.block k (by simp; omega) hno).trans (Lib.alloc_old w1 _ k hk1)
    rw [← h0, ← h2]
    simp only [World.setCell]
    rw [Array.getElem?_modify, if_neg (Ne.symm hkb)]
set_option maxHeartbeats 2000000 in
set_option maxRecDepth 100000 in
theorem bu_string (hT : BuT T) (B b : Nat) (bs : List Value) (s : ByteArray) (w : World) (h : Lib.IsBuilder T 5 B b bs w) (hlen : bs.length + s.size ≤ 140737488355328) (hBw : B ≤ w.heap.size) :
    Calls Tryz.prog 58 #[.pointer (some ⟨b, 0, none⟩), .string s] w fun e w' => e = .returned (.tuple #[.int .i64 s.size, .nilIface]) ∧ (Lib.BuilderAt T 5 B b (.pointer (some ⟨b, 0, none⟩)) (bs ++ Lib.strCells s) w' ∧ Below B w w' ∧ Keep b w w') := by
  obtain ⟨i0, hi, hz0, hz1, hz2⟩ := info_parts infoByte
  go_enter Tryz.func58, Tryz.ntmps58
  go_wp2_with fail
  refine (bu_check hT B b bs _ h).mono ?_
  rintro e w1 ⟨rfl, h1, hb1, hck⟩
  have HCK := hId hck
  clear hck
  obtain ⟨hB, v, hbk, hown, hne⟩ := h1
  have c0 : w1.cell? ⟨b, 0, none⟩ = some (.pointer (some ⟨b, 0, none⟩)) := by rw [Lib.cell_of_heap hbk]; rfl
  have c1 : w1.cell? ⟨b, 1, none⟩ = some v := by rw [Lib.cell_of_heap hbk]; rfl
  go_wp2_with (at_builtin; refine Lib.wpList_append_own_string _ rfl _ _ 106 9 rfl B 5 i0 Tryz.underlying106 Tryz.underlying9 hi hz0 hz1 hz2 _ _ _ rfl hown s rfl ?c3 ?c4 ?c5 ?_)
  case c3 => unfold maxLen; omega
  case c4 => omega
  case c5 => have := hb1.size; omega
  intro v' w2 hown' hgrow _
  have hlt : b < w1.heap.size := heap_lt hbk
  have hb2 : w2.heap[b]? = some (.cells #[.pointer (some ⟨b, 0, none⟩), v] T (0, 0)) := by
    rw [hgrow.block b hlt (fun e => hne e.symm)]
    exact hbk
  have d0 : w2.cell? ⟨b, 0, none⟩ = some (.pointer (some ⟨b, 0, none⟩)) := by rw [Lib.cell_of_heap hb2]; rfl
  have d1 : w2.cell? ⟨b, 1, none⟩ = some v := by rw [Lib.cell_of_heap hb2]; rfl
  have f1 : w2.frozen? ⟨b, 1, none⟩ = false := Lib.frozen_of_heap hb2 1
  obtain ⟨ao, n', cap, rfl⟩ : ∃ ao n' cap, v' = .slice ao n' cap := by
    rcases hown'.2 with ⟨hv, _⟩ | ⟨g, cap, cur, hv, _⟩
    · exact ⟨_, _, _, hv⟩
    · exact ⟨_, _, _, hv⟩
  go_wp2
  go_ret2
  refine ⟨rfl, ?_, ?_, ?_⟩
  · exact Lib.BuilderAt.put (T := T) (e := 5) hB hb2 (bs' := bs ++ Lib.strCells s) (by simpa [Lib.strCells_length] using hown') hT.ne
  · exact (hb1.grown hgrow (by have := hb1.size; omega) (fun k hk => (hown.lt k hk).1)).setCell (p := ⟨b, 1, none⟩) hB _
  · intro k hk hkb hfr
    have h0 := Keep.check HCK.out k hkb
    have hk1 : k < w1.heap.size := by have := hb1.size; omega
    have hno : some k ≠ v.ownBlock := fun e => by
      rcases hown.2 with ⟨hv, _⟩ | ⟨g, cap, cur, hv, _, hg, _⟩
      · rw [hv] at e; simp [Value.ownBlock] at e
      · rw [hv] at e
        simp only [Value.ownBlock, Option.some.injEq] at e
        subst e
        exact hfr _ (h0.symm.trans hg)
    have h2 : w2.heap[k]? = w1.heap[k]? := hgrow.block k hk1 hno
    rw [← h0, ← h2]
    simp only [World.setCell]
    rw [Array.getElem?_modify, if_neg (Ne.symm hkb)]
set_option maxHeartbeats 2000000 in
set_option maxRecDepth 100000 in
/-- String() of a Builder that holds something -/
theorem bu_give (B b : Nat) (l : List UInt8) (w : World) (h : Lib.IsBuilder T 5 B b (Lib.byteCells l) w) (h0 : l ≠ []) :
    Calls Tryz.prog 59 #[.pointer (some ⟨b, 0, none⟩)] w fun e w' => e = .returned (.string ⟨l.toArray⟩) ∧ Below B w w' := by
  obtain ⟨p, hB, v, hbk, hown, hne⟩ : ∃ p, Lib.BuilderAt T 5 B b p (Lib.byteCells l) w := by
    rcases h with h | h
    · exact ⟨_, h⟩
    · exact ⟨_, h⟩
  have hl0 : l.length ≠ 0 := by simpa using h0
  rw [Lib.byteCells_length] at hown
  obtain ⟨g, cap, cur, rfl, hbg, hg, hnc, hcm, hcs, htake⟩ : ∃ g cap cur, v = .slice (some ⟨g, 0, none⟩) l.length cap ∧ B ≤ g ∧ w.heap[g]? = some (.cells cur 5 (0, 0)) ∧ l.length ≤ cap ∧ cap ≤ maxLen ∧ cur.size = cap * 1 ∧ cur.toList.take (l.length * 1) = Lib.byteCells l := by
    rcases hown.2 with ⟨_, hz⟩ | ⟨g, cap, cur, hv, r⟩
    · exact absurd hz hl0
    · exact ⟨g, cap, cur, hv, r⟩
  have c1 : w.drew.cell? ⟨b, 1, none⟩ = some (.slice (some ⟨g, 0, none⟩) l.length cap) := by
    have : w.drew.heap[b]? = some (.cells #[p, .slice (some ⟨g, 0, none⟩) l.length cap] T (0, 0)) := hbk
    rw [Lib.cell_of_heap this]; rfl
  have hSD : (Builtin.unsafeSliceData_ #[106] 144 #[.slice (some ⟨g, 0, none⟩) l.length cap]).run Tryz.prog w.drew = .ok (.pointer (some ⟨g, 0, none⟩)) w.drew :=
    Lib.run_unsafeSliceData_row _ _ _ _ _ _ (by omega)
  have hUS : (Builtin.unsafeString_ #[144, 3] 9 #[.pointer (some ⟨g, 0, none⟩), .int .i64 l.length]).run Tryz.prog w.drew = .ok (.string ⟨l.toArray⟩) (w.drew.freeze ⟨g, 0, none⟩ l.length) := by
    refine Lib.run_unsafeString_row w.drew 144 3 9 5 Tryz.underlying144 (by kernel_rfl) g cur.size (by have hg' : w.drew.heap[g]? = some (.cells cur 5 (0, 0)) := hg; simp [World.shape?, hg']) l h0 (by omega) (by unfold maxLen at hcm; omega) ?_
    intro j x hx
    have := hown.cells (g := g) rfl j (.int .u8 x.toNat) (by simp [Lib.byteCells, hx])
    exact this
  go_enter Tryz.func59, Tryz.ntmps59
  go_wp2
  go_region
  all_goals (go_wp2; go_ret; exact ⟨rfl, Lib.below_freeze (Below.drew (Below.refl B w)) (p := ⟨g, 0, none⟩) hbg _⟩)
end


/-- a Builder at the head of block b (of type T) that holds the bytes l, its buffer from B on -/
abbrev Bw (T : TypeId) (B b : Nat) (l : List UInt8) (w : World) : Prop := Lib.IsBuilder T 5 B b (Lib.byteCells l) w
theorem Mod.of_belowB {B : Nat} {w w' : World} (h : Below B w w') : Mod (fun k => B ≤ k) w w' :=
  ⟨h.os, h.tape, h.output, h.size, fun i hi hs => h.block i (by omega)⟩
theorem New.grownBy {w w' : World} (h : New w w') (row : Option Nat) : w.grownBy w' row :=
  ⟨h.os, h.tape, h.output, h.size, fun k hk _ => h.block k hk (fun e => e)⟩
/-- what turned from B on, where w ends, is new -/
theorem New.from {B : Nat} {w w1 w2 : World} (h : New w w1) (hm : Mod (fun k => B ≤ k) w1 w2) (hB : w.heap.size ≤ B) : New w w2 :=
  h.step hm (fun i hi e => by omega)
theorem Keep.refl (b : Nat) (w : World) : Keep b w w := fun _ _ _ _ => rfl
theorem Keep.new {b : Nat} {w w' : World} (h : New w w') : Keep b w w' := fun k hk _ _ => h.block k hk (fun e => e)
theorem Keep.trans {b : Nat} {w w1 w2 : World} (h : Keep b w w1) (h1 : Keep b w1 w2) (hs : w.heap.size ≤ w1.heap.size) : Keep b w w2 := fun k hk hb hf => by
  have e := h k hk hb hf
  exact (h1 k (by omega) hb (fun cur => by rw [e]; exact hf cur)).trans e
theorem Blk.keep {b k : Nat} {t : TypeId} {cs : Array Value} {w w' : World} (h : Blk w k t cs) (hkp : Keep b w w') (hk : k ≠ b) (ht : t ≠ 5) : Blk w' k t cs :=
  (hkp k (heap_lt h) hk (fun cur e => by
    rw [show w.heap[k]? = some (.cells cs t (0, 0)) from h] at e
    injection e with e
    injection e with _ e2
    exact ht e2)).trans h
theorem Mod.keep {b B : Nat} {w w' : World} (hm : Mod (fun k => B ≤ k) w w') (hkp : Keep b w w') : Mod (fun k => k = b ∨ TB w k 5) w w' :=
  ⟨hm.os, hm.tape, hm.output, hm.size, fun i hi hs => hkp i hi (fun e => hs (.inl e)) (fun cur e => hs (.inr ⟨cur, _, e⟩))⟩
section
variable {T : TypeId}
theorem Bw.fresh {w : World} {B b : Nat} (hb : Blk w b T #[.pointer none, .slice none 0 0]) (hB : B ≤ b) : Bw T B b [] w :=
  .inl ⟨hB, .slice none 0 0, hb, World.ownsRow_nil _ _ _ _, by simp [Value.ownBlock]⟩
theorem Bw.new {B b : Nat} {l : List UInt8} {w w' : World} (h : Bw T B b l w) (hm : New w w') : Bw T B b l w' := by
  have key : ∀ p, Lib.BuilderAt T 5 B b p (Lib.byteCells l) w → Lib.BuilderAt T 5 B b p (Lib.byteCells l) w' := fun p ⟨h1, v, h2, h3, h4⟩ =>
    ⟨h1, v, (hm.block b (heap_lt h2) (fun e => e)).trans h2, h3.kept (hm.grownBy none) (by cases v.ownBlock with | none => exact .inl rfl | some k => exact .inr (by simp)), h4⟩
  exact h.imp (key _) (key _)
theorem Bw.lt {B b : Nat} {l : List UInt8} {w : World} (h : Bw T B b l w) : B ≤ b ∧ b < w.heap.size := by
  rcases h with ⟨h1, v, h2, _⟩ | ⟨h1, v, h2, _⟩
  · exact ⟨h1, heap_lt h2⟩
  · exact ⟨h1, heap_lt h2⟩
theorem bw_string (hT : BuT T) (B b : Nat) (l : List UInt8) (s : ByteArray) (w : World) (h : Bw T B b l w) (hn : l.length + s.size ≤ 1000000) :
    Calls Tryz.prog 58 #[.pointer (some ⟨b, 0, none⟩), .string s] w fun e w' => e = .returned (.tuple #[.int .i64 s.size, .nilIface]) ∧ Bw T B b (l ++ s.data.toList) w' ∧ Mod (fun k => B ≤ k) w w' ∧ Keep b w w' := by
  have hlt := h.lt
  refine (bu_string hT B b (Lib.byteCells l) s w h (by rw [Lib.byteCells_length]; omega) (by omega)).mono ?_
  rintro e w' ⟨rfl, hb, hm, hkp⟩
  refine ⟨rfl, .inr ?_, Mod.of_belowB hm, hkp⟩
  rw [Lib.byteCells_append, ← Lib.strCells_eq]
  exact hb
theorem bw_byte (hT : BuT T) (B b : Nat) (l : List UInt8) (c : UInt8) (n : Int) (hc : n = c.toNat) (w : World) (h : Bw T B b l w) (hn : l.length + 1 ≤ 1000000) :
    Calls Tryz.prog 57 #[.pointer (some ⟨b, 0, none⟩), .int .u8 n] w fun e w' => e = .returned .nilIface ∧ Bw T B b (l ++ [c]) w' ∧ Mod (fun k => B ≤ k) w w' ∧ Keep b w w' := by
  subst hc
  have hlt := h.lt
  refine (bu_byte hT B b (Lib.byteCells l) c.toNat w h (by rw [Lib.byteCells_length]; omega) (by omega)).mono ?_
  rintro e w' ⟨rfl, hb, hm, hkp⟩
  refine ⟨rfl, .inr ?_, Mod.of_belowB hm, hkp⟩
  rw [Lib.byteCells_append]
  exact hb
theorem bw_len (B b : Nat) (l : List UInt8) (w : World) (h : Bw T B b l w) :
    Calls Tryz.prog 125 #[.pointer (some ⟨b, 0, none⟩)] w fun e w' => e = .returned (.int .i64 l.length) ∧ w' = w := by
  have := bu_len B b (Lib.byteCells l) w h
  rwa [Lib.byteCells_length] at this
theorem bw_give (B b : Nat) (l : List UInt8) (w : World) (h : Bw T B b l w) (h0 : l ≠ []) :
    Calls Tryz.prog 59 #[.pointer (some ⟨b, 0, none⟩)] w fun e w' => e = .returned (.string ⟨l.toArray⟩) ∧ Mod (fun k => B ≤ k) w w' := by
  refine (bu_give B b l w h h0).mono ?_
  rintro e w' ⟨rfl, hm⟩
  exact ⟨rfl, Mod.of_belowB hm⟩
end


abbrev hexB : ByteArray := ⟨#[48, 49, 50, 51, 52, 53, 54, 55, 56, 57, 97, 98, 99, 100, 101, 102]⟩
theorem hexD_at (m : Nat) (h : m < 16) : hexD m = hexB[m]'h := by
  match m, h with
  | 0, _ => rfl
  | 1, _ => rfl
  | 2, _ => rfl
  | 3, _ => rfl
  | 4, _ => rfl
  | 5, _ => rfl
  | 6, _ => rfl
  | 7, _ => rfl
  | 8, _ => rfl
  | 9, _ => rfl
  | 10, _ => rfl
  | 11, _ => rfl
  | 12, _ => rfl
  | 13, _ => rfl
  | 14, _ => rfl
  | 15, _ => rfl
  | n + 16, h => exact absurd h (by omega)

set_option maxRecDepth 100000 in
set_option maxHeartbeats 1500000 in
theorem quote_v (s : ByteArray) (w : World) (hs : s.size ≤ 100000) :
    Calls Tryz.prog 124 #[.string s] w fun e w' => e = .returned (.string ⟨(quoteL s.data.toList).toArray⟩) ∧ New w w' := by
  have hb0 := Blk.new w 108 #[.pointer none, .slice none 0 0]
  have hm0 : New w (w.alloc (.cells #[.pointer none, .slice none 0 0] 108)) := (Mod.refl _ _).alloc _
  go_enter Tryz.func124, Tryz.ntmps124
  go_upto_region 2 with (fail)
  generalize w.alloc (.cells #[.pointer none, .slice none 0 0] 108) = w1 at *
  generalize hbe : w.heap.size = B at *
  have HB := hId (Bw.fresh hb0 (Nat.le_refl _))
  have HM := hId hm0
  have HBE := hId hbe
  have HL : Hid (([] : List UInt8).length + 1 ≤ 1000000) := hId (by simp)
  clear hb0 hm0 hbe
  go_wp2_with fail
  refine (bw_byte buT_self B B _ 34 34 (by first | rfl | (exact HC.out.symm)) _ HB.out (by have hq := HL.out; first | omega | (simp; done) | (simp at hq ⊢; omega))).mono ?_
  rintro e wz ⟨rfl, hb1, hm1, -⟩
  have HM1 := hId (HM.out.from hm1 (Nat.le_of_eq HBE.out))
  clear HB HM hm1
  have HB := hId hb1
  have HM := HM1
  clear hb1 HM1
  clear HL
  go_wp2_with fail
  go_loopw [9] (fun i wr => ∃ k : Nat, k ≤ s.size ∧ i = .int .i64 k ∧ Hid (Bw 108 B B (34 :: (s.data.toList.take k).flatMap qc) wr) ∧ Hid (New w wr)) (fun i _ => s.size - (intOf i).toNat)
  case atStart => exact ⟨0, Nat.zero_le _, rfl, by simpa using HB, HM⟩
  case round =>
    clear HB HM
    rename World => wr
    obtain ⟨k, hk, rfl, HB, HM⟩ := hrel
    have HL : Hid ((34 :: (s.data.toList.take k).flatMap qc).length + 1 ≤ 700000) := hId (by
      have h1 := quoteL_length (s.data.toList.take k)
      simp only [quoteL, List.length_cons, List.length_append, List.length_nil, List.length_take] at h1 ⊢
      have h2 : s.data.toList.length = s.size := rfl
      omega)
    by_cases hlt : k < s.size
    · have hkl : k < s.data.toList.length := hlt
      have HTK : Hid ((34 :: (s.data.toList.take (k + 1)).flatMap qc) = (34 :: (s.data.toList.take k).flatMap qc) ++ qc s[k]) := hId (by
        rw [List.take_succ_eq_append_getElem hkl, List.flatMap_append]
        simp [ByteArray.getElem_eq_getElem_data])
      have hb1 : (0 : Int) ≤ k := by omega
      have hb2 : (k : Int) < s.size := by omega
      generalize 34 :: (s.data.toList.take k).flatMap qc = L at *
      go_upto_region 8 with (fail)
      generalize s[k] = c at *
      have hc8 := c.toNat_lt
      generalize hcn : (c.toNat : Int) = n at *
      have HC := hId hcn
      have hn0 : 0 ≤ n ∧ n < 256 := by omega
      obtain ⟨hn0, hn1⟩ := hn0
      clear hcn hc8
      have hcc : ∀ q : Nat, n = (q : Int) → q < 256 → c = UInt8.ofNat q := fun q h hq => by
        have h1 : c.toNat = q := by have := HC.out; omega
        rw [← h1]; simp
      have HCC := hId hcc
      clear hcc
      by_cases n34 : n = 34
      · subst n34
        have HQ : Hid (qc c = [92, c]) := hId (by rw [HCC.out 34 rfl (by omega)]; rfl)
        go_wp2_with fail
        refine (bw_byte buT_self B B _ 92 92 (by first | rfl | (exact HC.out.symm)) _ HB.out (by have hq := HL.out; first | omega | (simp; done) | (simp at hq ⊢; omega))).mono ?_
        rintro e wz ⟨rfl, hb1, hm1, -⟩
        have HM1 := hId (HM.out.from hm1 (Nat.le_of_eq HBE.out))
        clear HB HM hm1
        have HB := hId hb1
        have HM := HM1
        clear hb1 HM1
        go_wp2_with fail
        refine (bw_byte buT_self B B _ c 34 (by first | rfl | (exact HC.out.symm)) _ HB.out (by have hq := HL.out; first | omega | (simp; done) | (simp at hq ⊢; omega))).mono ?_
        rintro e wz ⟨rfl, hb1, hm1, -⟩
        have HM1 := hId (HM.out.from hm1 (Nat.le_of_eq HBE.out))
        clear HB HM hm1
        have HB := hId hb1
        have HM := HM1
        clear hb1 HM1
        go_wp2_with fail
        go_roundw
        case rel => exact ⟨k + 1, by omega, by go_num, hId (by rw [HTK.out, HQ.out]; simpa using HB.out), HM⟩
        case measure => simp [intOf]; omega
      have f34 : (n == 34) = false := by simpa using n34
      by_cases n92 : n = 92
      · subst n92
        have HQ : Hid (qc c = [92, c]) := hId (by rw [HCC.out 92 rfl (by omega)]; rfl)
        go_wp2_with fail
        refine (bw_byte buT_self B B _ 92 92 (by first | rfl | (exact HC.out.symm)) _ HB.out (by have hq := HL.out; first | omega | (simp; done) | (simp at hq ⊢; omega))).mono ?_
        rintro e wz ⟨rfl, hb1, hm1, -⟩
        have HM1 := hId (HM.out.from hm1 (Nat.le_of_eq HBE.out))
        clear HB HM hm1
        have HB := hId hb1
        have HM := HM1
        clear hb1 HM1
        go_wp2_with fail
        refine (bw_byte buT_self B B _ c 92 (by first | rfl | (exact HC.out.symm)) _ HB.out (by have hq := HL.out; first | omega | (simp; done) | (simp at hq ⊢; omega))).mono ?_
        rintro e wz ⟨rfl, hb1, hm1, -⟩
        have HM1 := hId (HM.out.from hm1 (Nat.le_of_eq HBE.out))
        clear HB HM hm1
        have HB := hId hb1
        have HM := HM1
        clear hb1 HM1
        go_wp2_with fail
        go_roundw
        case rel => exact ⟨k + 1, by omega, by go_num, hId (by rw [HTK.out, HQ.out]; simpa using HB.out), HM⟩
        case measure => simp [intOf]; omega
      have f92 : (n == 92) = false := by simpa using n92
      by_cases n10 : n = 10
      · subst n10
        have HQ : Hid (qc c = [92, 110]) := hId (by rw [HCC.out 10 rfl (by omega)]; rfl)
        go_wp2_with fail
        refine (bw_string buT_self B B _ (⟨#[92, 110]⟩ : ByteArray) _ HB.out (by have hq := HL.out; exact Nat.le_trans (Nat.add_le_add_left (show ByteArray.size (⟨#[92, 110]⟩ : ByteArray) ≤ 10 by decide) _) (by first | omega | (simp at hq ⊢; omega)))).mono ?_
        rintro e wz ⟨rfl, hb1, hm1, -⟩
        have HM1 := hId (HM.out.from hm1 (Nat.le_of_eq HBE.out))
        clear HB HM hm1
        have HB := hId hb1
        have HM := HM1
        clear hb1 HM1
        go_wp2_with fail
        go_roundw
        case rel => exact ⟨k + 1, by omega, by go_num, hId (by rw [HTK.out, HQ.out]; simpa using HB.out), HM⟩
        case measure => simp [intOf]; omega
      have f10 : (n == 10) = false := by simpa using n10
      by_cases n13 : n = 13
      · subst n13
        have HQ : Hid (qc c = [92, 114]) := hId (by rw [HCC.out 13 rfl (by omega)]; rfl)
        go_wp2_with fail
        refine (bw_string buT_self B B _ (⟨#[92, 114]⟩ : ByteArray) _ HB.out (by have hq := HL.out; exact Nat.le_trans (Nat.add_le_add_left (show ByteArray.size (⟨#[92, 114]⟩ : ByteArray) ≤ 10 by decide) _) (by first | omega | (simp at hq ⊢; omega)))).mono ?_
        rintro e wz ⟨rfl, hb1, hm1, -⟩
        have HM1 := hId (HM.out.from hm1 (Nat.le_of_eq HBE.out))
        clear HB HM hm1
        have HB := hId hb1
        have HM := HM1
        clear hb1 HM1
        go_wp2_with fail
        go_roundw
        case rel => exact ⟨k + 1, by omega, by go_num, hId (by rw [HTK.out, HQ.out]; simpa using HB.out), HM⟩
        case measure => simp [intOf]; omega
      have f13 : (n == 13) = false := by simpa using n13
      by_cases n9 : n = 9
      · subst n9
        have HQ : Hid (qc c = [92, 116]) := hId (by rw [HCC.out 9 rfl (by omega)]; rfl)
        go_wp2_with fail
        refine (bw_string buT_self B B _ (⟨#[92, 116]⟩ : ByteArray) _ HB.out (by have hq := HL.out; exact Nat.le_trans (Nat.add_le_add_left (show ByteArray.size (⟨#[92, 116]⟩ : ByteArray) ≤ 10 by decide) _) (by first | omega | (simp at hq ⊢; omega)))).mono ?_
        rintro e wz ⟨rfl, hb1, hm1, -⟩
        have HM1 := hId (HM.out.from hm1 (Nat.le_of_eq HBE.out))
        clear HB HM hm1
        have HB := hId hb1
        have HM := HM1
        clear hb1 HM1
        go_wp2_with fail
        go_roundw
        case rel => exact ⟨k + 1, by omega, by go_num, hId (by rw [HTK.out, HQ.out]; simpa using HB.out), HM⟩
        case measure => simp [intOf]; omega
      have f9 : (n == 9) = false := by simpa using n9
      by_cases nh : n < 32 ∨ n = 127
      · have q16 : (n / 16).toNat < 16 := by omega
        have r16 : (n % 16).toNat < 16 := by omega
        have HQ : Hid (qc c = [92, 117, 48, 48] ++ [hexB[(n / 16).toNat]'q16] ++ [hexB[(n % 16).toNat]'r16]) := hId (by
          have h0 := HC.out
          have k34 : c ≠ 34 := fun h => n34 (by rw [← h0, h]; rfl)
          have k92 : c ≠ 92 := fun h => n92 (by rw [← h0, h]; rfl)
          have k10 : c ≠ 10 := fun h => n10 (by rw [← h0, h]; rfl)
          have k13 : c ≠ 13 := fun h => n13 (by rw [← h0, h]; rfl)
          have k9 : c ≠ 9 := fun h => n9 (by rw [← h0, h]; rfl)
          have kq : (n / 16).toNat = c.toNat / 16 := by omega
          have kr : (n % 16).toNat = c.toNat % 16 := by omega
          have kh : c.toNat < 32 ∨ c = 127 := by
            rcases nh with h | h
            · exact .inl (by omega)
            · exact .inr (HCC.out 127 h (by omega))
          rw [← hexD_at _ q16, ← hexD_at _ r16, kq, kr]
          unfold qc
          rw [if_neg (by simp [k34, k92]), if_neg k10, if_neg k13, if_neg k9, if_pos kh]
          rfl)
        by_cases h32 : n < 32
        · clear nh
          go_wp2_with fail
          refine (bw_string buT_self B B _ (⟨#[92, 117, 48, 48]⟩ : ByteArray) _ HB.out (by have hq := HL.out; exact Nat.le_trans (Nat.add_le_add_left (show ByteArray.size (⟨#[92, 117, 48, 48]⟩ : ByteArray) ≤ 10 by decide) _) (by first | omega | (simp at hq ⊢; omega)))).mono ?_
          rintro e wz ⟨rfl, hb1, hm1, -⟩
          have HM1 := hId (HM.out.from hm1 (Nat.le_of_eq HBE.out))
          clear HB HM hm1
          have HB := hId hb1
          have HM := HM1
          clear hb1 HM1
          go_wp2_with fail
          refine (bw_byte buT_self B B _ _ _ (by first | rfl | (exact HC.out.symm)) _ HB.out (by have hq := HL.out; first | omega | (simp; done) | (simp at hq ⊢; omega))).mono ?_
          rintro e wz ⟨rfl, hb1, hm1, -⟩
          have HM1 := hId (HM.out.from hm1 (Nat.le_of_eq HBE.out))
          clear HB HM hm1
          have HB := hId hb1
          have HM := HM1
          clear hb1 HM1
          go_wp2_with fail
          refine (bw_byte buT_self B B _ _ _ (by first | rfl | (exact HC.out.symm)) _ HB.out (by have hq := HL.out; first | omega | (simp; done) | (simp at hq ⊢; omega))).mono ?_
          rintro e wz ⟨rfl, hb1, hm1, -⟩
          have HM1 := hId (HM.out.from hm1 (Nat.le_of_eq HBE.out))
          clear HB HM hm1
          have HB := hId hb1
          have HM := HM1
          clear hb1 HM1
          go_wp2_with fail
          go_roundw
          case rel => exact ⟨k + 1, by omega, by go_num, hId (by rw [HTK.out, HQ.out]; simpa using HB.out), HM⟩
          case measure => simp [intOf]; omega
        · have f32 : decide (n < 32) = false := by simpa using h32
          have f127 : (n == 127) = true := by simp; omega
          clear nh h32
          go_wp2_with fail
          refine (bw_string buT_self B B _ (⟨#[92, 117, 48, 48]⟩ : ByteArray) _ HB.out (by have hq := HL.out; exact Nat.le_trans (Nat.add_le_add_left (show ByteArray.size (⟨#[92, 117, 48, 48]⟩ : ByteArray) ≤ 10 by decide) _) (by first | omega | (simp at hq ⊢; omega)))).mono ?_
          rintro e wz ⟨rfl, hb1, hm1, -⟩
          have HM1 := hId (HM.out.from hm1 (Nat.le_of_eq HBE.out))
          clear HB HM hm1
          have HB := hId hb1
          have HM := HM1
          clear hb1 HM1
          go_wp2_with fail
          refine (bw_byte buT_self B B _ _ _ (by first | rfl | (exact HC.out.symm)) _ HB.out (by have hq := HL.out; first | omega | (simp; done) | (simp at hq ⊢; omega))).mono ?_
          rintro e wz ⟨rfl, hb1, hm1, -⟩
          have HM1 := hId (HM.out.from hm1 (Nat.le_of_eq HBE.out))
          clear HB HM hm1
          have HB := hId hb1
          have HM := HM1
          clear hb1 HM1
          go_wp2_with fail
          refine (bw_byte buT_self B B _ _ _ (by first | rfl | (exact HC.out.symm)) _ HB.out (by have hq := HL.out; first | omega | (simp; done) | (simp at hq ⊢; omega))).mono ?_
          rintro e wz ⟨rfl, hb1, hm1, -⟩
          have HM1 := hId (HM.out.from hm1 (Nat.le_of_eq HBE.out))
          clear HB HM hm1
          have HB := hId hb1
          have HM := HM1
          clear hb1 HM1
          go_wp2_with fail
          go_roundw
          case rel => exact ⟨k + 1, by omega, by go_num, hId (by rw [HTK.out, HQ.out]; simpa using HB.out), HM⟩
          case measure => simp [intOf]; omega
      · have f32 : decide (n < 32) = false := by simp; omega
        have f127 : (n == 127) = false := by simp; omega
        have HQ : Hid (qc c = [c]) := hId (by
          unfold qc
          have h0 := HC.out
          have k34 : c ≠ 34 := fun h => n34 (by rw [← h0, h]; rfl)
          have k92 : c ≠ 92 := fun h => n92 (by rw [← h0, h]; rfl)
          have k10 : c ≠ 10 := fun h => n10 (by rw [← h0, h]; rfl)
          have k13 : c ≠ 13 := fun h => n13 (by rw [← h0, h]; rfl)
          have k9 : c ≠ 9 := fun h => n9 (by rw [← h0, h]; rfl)
          have k32 : ¬ c.toNat < 32 := by omega
          have k127 : c ≠ 127 := fun h => nh (.inr (by rw [← h0, h]; rfl))
          simp [k34, k92, k10, k13, k9, k32, k127])
        clear nh
        go_wp2_with fail
        refine (bw_byte buT_self B B _ c n (by first | rfl | (exact HC.out.symm)) _ HB.out (by have hq := HL.out; first | omega | (simp; done) | (simp at hq ⊢; omega))).mono ?_
        rintro e wz ⟨rfl, hb1, hm1, -⟩
        have HM1 := hId (HM.out.from hm1 (Nat.le_of_eq HBE.out))
        clear HB HM hm1
        have HB := hId hb1
        have HM := HM1
        clear hb1 HM1
        go_wp2_with fail
        go_roundw
        case rel => exact ⟨k + 1, by omega, by go_num, hId (by rw [HTK.out, HQ.out]; simpa using HB.out), HM⟩
        case measure => simp [intOf]; omega
    · obtain rfl : k = s.size := by omega
      have HTE : Hid ((34 :: (s.data.toList.take s.size).flatMap qc) ++ [34] = quoteL s.data.toList) := hId (by
        rw [List.take_of_length_le (show s.data.toList.length ≤ s.size from Nat.le_refl _)]; rfl)
      generalize 34 :: (s.data.toList.take s.size).flatMap qc = L at *
      clear hlt hk
      go_wp2_with fail
      refine (bw_byte buT_self B B _ 34 34 (by first | rfl | (exact HC.out.symm)) _ HB.out (by have hq := HL.out; first | omega | (simp; done) | (simp at hq ⊢; omega))).mono ?_
      rintro e wz ⟨rfl, hb1, hm1, -⟩
      have HM1 := hId (HM.out.from hm1 (Nat.le_of_eq HBE.out))
      clear HB HM hm1
      have HB := hId hb1
      have HM := HM1
      clear hb1 HM1
      have hgv := bw_give B B _ _ HB.out (by simp)
      rw [HTE.out] at hgv
      go_wp2_with fail
      refine hgv.mono ?_
      clear hgv
      rintro e wy ⟨rfl, m5⟩
      have HM5 := hId (HM.out.from m5 (Nat.le_of_eq HBE.out))
      go_wp2_with fail
      go_ret
      exact ⟨rfl, HM5.out⟩

end Go.Proofs.YtjmnkdkdjnmejaaGreatDoor
