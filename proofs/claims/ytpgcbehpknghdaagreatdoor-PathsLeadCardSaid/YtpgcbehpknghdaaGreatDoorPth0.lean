/- The law PathsLead: what it needs beside the walks. Conditions: the library's tables lie as they should. -/
import Derived.Test.YtpgcbehpknghdaaGreatDoorValV
import Derived.Test.YtpgcbehpknghdaaGreatDoorPaths
import Derived.Test.YtpgcbehpknghdaaGreatDoorGet
import Derived.Test.YtpgcbehpknghdaaGreatDoorClone
namespace Go.Proofs.YtpgcbehpknghdaaGreatDoor
open Go.RowKit
set_option linter.unusedVariables false
set_option linter.unusedSimpArgs false

def InInts (w : World) (A : Option Addr) (n : Nat) : Prop :=
  n ≤ maxLen ∧ (0 < n → ∃ g o, A = some ⟨g, o, none⟩ ∧ g < w.heap.size ∧ ∃ z : Nat → Int, ∀ i, i < n → w.cell? ⟨g, o + i, none⟩ = some (.int .i64 (z i)) ∧ I64 (z i))

theorem SInv.start {w : World} {A : Option Addr} {n c : Nat} (h : InInts w A n) : SInv w.heap.size (w.alloc (.cells #[.slice A n c, .int .i64 0] 25)) 0 := by
  rcases Nat.eq_zero_or_pos n with rfl | hn
  · exact ⟨A, 0, c, 0, fun _ => 0, Blk.new _ _ _, by omega, by unfold maxLen; omega, fun h => absurd h (by omega)⟩
  · obtain ⟨g, o, hA, hg, z, hz⟩ := h.2 hn
    refine ⟨A, n, c, 0, z, Blk.new _ _ _, by omega, h.1, fun _ => ⟨g, o, hA, hg, fun i hi => ⟨?_, (hz i hi).2⟩⟩⟩
    rw [← (hz i hi).1]
    exact World.cell?_alloc_lt w _ _ hg

/-- what the stream does is nothing to the caller's memory -/
theorem SStep.news {w w' : World} {o : Obj} {k : Nat} (h : SStep w.heap.size (w.alloc o) w' k) : New w w' :=
  ((Mod.refl (fun _ => False) w).alloc o).step h.only (fun i hi e => by omega)


def nullV : VT := .mk 4 false 0 ⟨#[]⟩ [.mk 0 false 0 ⟨#[]⟩ [] []] []
theorem nullV_check : vCheck 2 nullV = 0 := by kernel_rfl
theorem nullV_text : vText 2 nullV = [91, 110, 117, 108, 108, 93] := by kernel_rfl
theorem nullV_w : vW 2 nullV ≤ 1000 := by decide
theorem nullV_fit : Fit 2 nullV := by
  refine ⟨Nat.le_trans nullV_w (by omega), by show 1 ≤ 1000; omega, Nat.zero_le _, by show (⟨#[]⟩ : ByteArray).size ≤ 100000; decide, fun z hz => ?_, fun z hz => by simp [nullV, VT.mem] at hz⟩
  have : z = .mk 0 false 0 ⟨#[]⟩ [] [] := by simpa [nullV, VT.list] using hz
  subst this
  exact leaf_wide0 0 1000 0
set_option maxRecDepth 100000 in
set_option maxHeartbeats 1000000 in
theorem valued_v (w : World) (hP : Pow10 w) (hU : Utf8T w) : Calls Tryz.prog 23 #[] w fun e w' => e = .returned (.bool true) ∧ New w w' := by
  have m1 : New w (w.alloc (.cells #[.int .i64 0, .bool false, .int .i64 0, .string ⟨#[]⟩, .slice none 0 0, .slice none 0 0] 29)) := (Mod.refl _ _).alloc _
  have bk := Blk.new w 29 #[.int .i64 0, .bool false, .int .i64 0, .string ⟨#[]⟩, .slice none 0 0, .slice none 0 0]
  have hown : Own (w.alloc (.cells #[.int .i64 0, .bool false, .int .i64 0, .string ⟨#[]⟩, .slice none 0 0, .slice none 0 0] 29)) w.heap.size 29 6 VA.enc (some ⟨w.heap.size, 0, none⟩) 1 1 [(⟨0, false, 0, ⟨#[]⟩, none, 0, 0, none, 0, 0⟩ : VA)] := Own.of_blk (xs := [(⟨0, false, 0, ⟨#[]⟩, none, 0, 0, none, 0, 0⟩ : VA)]) bk (Nat.le_refl _) rfl (by omega)
  have hks : Kids (TrV 1) 29 6 VA.enc (w.alloc (.cells #[.int .i64 0, .bool false, .int .i64 0, .string ⟨#[]⟩, .slice none 0 0, .slice none 0 0] 29)) w.heap.size (fun _ => True) (some ⟨w.heap.size, 0, none⟩) 1 1 [(⟨0, false, 0, ⟨#[]⟩, none, 0, 0, none, 0, 0⟩ : VA)] [VT.mk 0 false 0 ⟨#[]⟩ [] []] := ⟨hown, rfl, fun i h h' => by
    simp only [List.length_cons, List.length_nil] at h
    obtain rfl : i = 0 := by omega
    exact leaf_tree _ _ 0 0 false 0 ⟨#[]⟩⟩
  have hty : Tree (w.alloc (.cells #[.int .i64 0, .bool false, .int .i64 0, .string ⟨#[]⟩, .slice none 0 0, .slice none 0 0] 29)) (fun _ => True) (1 + 1) ⟨4, false, 0, ⟨#[]⟩, some ⟨w.heap.size, 0, none⟩, 1, 1, none, 0, 0⟩ nullV := Tree.of_kids hks (B' := 0) (G2 := fun _ => True) Kids.nil (fun _ _ _ => trivial) (fun _ _ _ => trivial) (fun _ _ => trivial) (fun _ _ => trivial)
  have htx := text_v 1 ⟨4, false, 0, ⟨#[]⟩, some ⟨w.heap.size, 0, none⟩, 1, 1, none, 0, 0⟩ nullV (fun _ => True) _ hty nullV_fit (Nat.le_trans nullV_w (by omega)) (hP.new m1) (hU.new m1)
  have hc : vCheck (1 + 1) nullV = 0 := nullV_check
  have ht : vText (1 + 1) nullV = [91, 110, 117, 108, 108, 93] := nullV_text
  rw [hc, ht, if_neg (by simp)] at htx
  have HM1 := Lib.hid m1
  clear hty hks hown bk m1 hc ht
  go_enter Tryz.func23, Tryz.ntmps23
  go_wp2_with fail
  refine htx.mono ?_
  clear htx
  rintro e w2 ⟨rfl, m2⟩
  have hte : ((⟨[91, 110, 117, 108, 108, 93].toArray⟩ : ByteArray).toList == [91, 110, 117, 108, 108, 93]) = true := by
    rw [ByteArray.toList_eq]; rfl
  go_wp2_with fail
  go_ret
  exact ⟨rfl, HM1.out.trans m2⟩


end Go.Proofs.YtpgcbehpknghdaaGreatDoor
