/- Words, lines, and a limit's line, walked: the program's. Conditions: the string is short; the library's variables lie as they should. -/
import Derived.Test.YtinnckbffblecaaGreatDoorReadLaw
import Derived.Test.YtinnckbffblecaaGreatDoorNum2
import Derived.Test.YtinnckbffblecaaGreatDoorHeld2
namespace Go.Proofs.YtinnckbffblecaaGreatDoor
open Go.RowKit
set_option linter.unusedVariables false
set_option linter.unusedSimpArgs false


/-- the library's variable on searching is an int -/
def MaxLn (w : World) : Prop := ∃ m, w.cell? ⟨1, 0, none⟩ = some (.int .i64 m)
theorem MaxLn.new {w w' : World} (h : MaxLn w) (hm : New w w') : MaxLn w' := by
  obtain ⟨m, hc⟩ := h
  have hlt : 1 < w.heap.size := by
    rcases Nat.lt_or_ge 1 w.heap.size with hlt | hge
    · exact hlt
    · simp [World.cell?, Array.getElem?_eq_none hge] at hc
  exact ⟨m, (hm.cell (p := ⟨1, 0, none⟩) hlt (fun e => e)).trans hc⟩
theorem str_nil (z : ByteArray) : (z.toList == []) = decide (z = ⟨#[]⟩) := by
  rw [Bool.eq_iff_iff, ByteArray.toList_eq]
  simp only [beq_iff_eq, decide_eq_true_eq]
  constructor
  · intro h
    exact ByteArray.ext (Array.toList_inj.mp h)
  · rintro rfl
    rfl
def strCs (ws : List ByteArray) : Array Value := (ws.map Value.string).toArray
theorem strs_at {w : World} {g : Nat} {ws : List ByteArray} (h : Blk w g 9 (strCs ws)) (j : Nat) (hj : j < ws.length) : w.cell? ⟨g, j, none⟩ = some (.string (ws.getD j ByteArray.empty)) := by
  rw [h.cell j]
  unfold strCs
  simp [List.getD_eq_getElem?_getD, hj]
theorem split_any (t : ByteArray) (c : UInt8) (w : World) (hs : t.size ≤ 1000000) (hx : MaxLn w) :
    Calls Tryz.prog 33 #[.string t, .string ⟨#[c]⟩] w fun e w' => e = .returned (.slice (some ⟨w.heap.size, 0, none⟩) (pieces t ⟨#[c]⟩).length (pieces t ⟨#[c]⟩).length) ∧ w' = w.alloc (.cells (strCs (pieces t ⟨#[c]⟩)) 9) := by
  obtain ⟨m, hm⟩ := hx
  rw [pieces_length (show 1 ≤ (⟨#[c]⟩ : ByteArray).size from Nat.le_refl _)]
  exact Tryz.strings_Split t ⟨#[c]⟩ m w (by omega) hm (Nat.le_refl _)

set_option maxHeartbeats 1000000 in
theorem kit_words (t : ByteArray) (w : World) (hs : t.size ≤ 1000000) (hx : MaxLn w) :
    Calls Tryz.prog 47 #[.string t] w fun e w' => e = .returned (.tuple #[.slice (some ⟨w.heap.size, 0, none⟩) (pieces t sp).length (pieces t sp).length, .bool (!Lib.containsS (pieces t sp) ⟨#[]⟩)]) ∧ w' = w.alloc (.cells (strCs (pieces t sp)) 9) := by
  have hsp := split_any t 32 w hs hx
  have hlen : (pieces t sp).length ≤ 1000001 := by
    rw [pieces_length (show 1 ≤ (sp : ByteArray).size from Nat.le_refl _)]
    have := Lib.countB_le sp (Nat.le_refl _) t.size t (Nat.le_refl _)
    omega
  generalize pieces t sp = P at *
  have hb := Blk.new w 9 (strCs P)
  have hct := Tryz.slices_Contains_string w.heap.size 0 P.length P.length P ⟨#[]⟩ (w.alloc (.cells (strCs P) 9)) (Nat.le_refl _) (by omega) (fun j hj => by rw [Nat.zero_add]; exact strs_at hb j hj)
  rw [List.take_of_length_le (Nat.le_refl _)] at hct
  generalize Lib.containsS P ⟨#[]⟩ = X at *
  clear hb hx
  go_enter Tryz.func47, Tryz.ntmps47
  go_wp2_with fail
  refine hsp.mono ?_
  clear hsp
  rintro e w1 ⟨rfl, rfl⟩
  generalize hw1 : w.alloc (.cells (strCs P) 9) = w1 at *
  have HW1 := Lib.hid hw1
  clear hw1
  go_wp2_with fail
  refine hct.mono ?_
  clear hct
  rintro e w2 ⟨rfl, rfl⟩
  go_wp2_with fail
  go_ret2
  exact ⟨rfl, HW1.out.symm⟩

/-- what kit.Lines gives: the lines, and whether the last one is ended -/
def RLines (t : ByteArray) (w : World) (e : Ending) (w' : World) : Prop :=
  e = .returned (.tuple #[.slice (some ⟨w.heap.size, 0, none⟩) (if (pieces t nl).getLast? = some ⟨#[]⟩ then (pieces t nl).length - 1 else (pieces t nl).length) (pieces t nl).length, .bool (decide ((pieces t nl).getLast? = some ⟨#[]⟩))]) ∧ w' = w.alloc (.cells (strCs (pieces t nl)) 9)
set_option maxHeartbeats 1000000 in
theorem kit_lines (t : ByteArray) (w : World) (hs : t.size ≤ 1000000) (hx : MaxLn w) :
    Calls Tryz.prog 29 #[.string t] w (RLines t w) := by
  have hsp := split_any t 10 w hs hx
  have hlen : (pieces t nl).length ≤ 1000001 := by
    rw [pieces_length (show 1 ≤ (nl : ByteArray).size from Nat.le_refl _)]
    have := Lib.countB_le nl (Nat.le_refl _) t.size t (Nat.le_refl _)
    omega
  have hpos : 1 ≤ (pieces t nl).length := by rw [pieces_length (show 1 ≤ (nl : ByteArray).size from Nat.le_refl _)]; omega
  have HR : Hid (∀ e w', (e = .returned (.tuple #[.slice (some ⟨w.heap.size, 0, none⟩) (if (pieces t nl).getLast? = some ⟨#[]⟩ then (pieces t nl).length - 1 else (pieces t nl).length) (pieces t nl).length, .bool (decide ((pieces t nl).getLast? = some ⟨#[]⟩))]) ∧ w' = w.alloc (.cells (strCs (pieces t nl)) 9)) → RLines t w e w') := Lib.hid (fun e w' h => h)
  generalize pieces t nl = P at *
  have hb := Blk.new w 9 (strCs P)
  have hlast := strs_at hb (P.length - 1) (by omega)
  have hgl : P.getLast? = some (P.getD (P.length - 1) ByteArray.empty) := by
    rw [List.getLast?_eq_getElem?, List.getD_eq_getElem?_getD, List.getElem?_eq_getElem (by omega)]
    rfl
  have hbl := hb.lt
  rw [hgl] at HR
  generalize P.getD (P.length - 1) ByteArray.empty = z at *
  obtain ⟨n, hn⟩ : ∃ n, P.length = n + 1 := ⟨P.length - 1, by omega⟩
  have hn1 : P.length - 1 = n := by omega
  rw [hn1] at hlast HR
  rw [hn] at hsp hlen hpos HR
  have HW := Lib.hid (Eq.refl (w.alloc (.cells (strCs P) 9)))
  clear hb hx hgl hn hn1
  by_cases hz : z = ⟨#[]⟩
  · have hz' : (z.toList == []) = true := by rw [str_nil]; simpa using hz
    rw [if_pos (by rw [hz])] at HR
    have hdd : decide (some z = some (⟨#[]⟩ : ByteArray)) = true := by simpa using hz
    rw [hdd] at HR
    clear hz hdd
    go_enter Tryz.func29, Tryz.ntmps29
    go_wp2_with fail
    refine hsp.mono ?_
    clear hsp
    rintro e w1 ⟨rfl, rfl⟩
    go_wp2_with fail
    go_ret2
    exact HR.out _ _ ⟨by simp, rfl⟩
  · have hz' : (z.toList == []) = false := by rw [str_nil]; simpa using hz
    rw [if_neg (by simpa using hz)] at HR
    have hdd : decide (some z = some (⟨#[]⟩ : ByteArray)) = false := by simpa using hz
    rw [hdd] at HR
    clear hz hdd
    go_enter Tryz.func29, Tryz.ntmps29
    go_wp2_with fail
    refine hsp.mono ?_
    clear hsp
    rintro e w1 ⟨rfl, rfl⟩
    go_wp2_with fail
    go_ret2
    exact HR.out _ _ ⟨rfl, rfl⟩

end Go.Proofs.YtinnckbffblecaaGreatDoor
