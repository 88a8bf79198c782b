/- Several texts in one. (1) Stream.RightRoute: a route of modest size. Conditions: those of the stream; the library's variable on searching is an int. (2) Stream.OneRoute: a route of modest size (written by mkrtmk.py). Conditions: those of the stream; the library's variable on searching is an int. -/
import Derived.Test.YtnbcfpjalgfikaaGreatDoorRtMk1
import Derived.Test.YtnbcfpjalgfikaaGreatDoorTxt
import Derived.Test.YtnbcfpjalgfikaaGreatDoorLawSGrp

namespace Go.Proofs.YtnbcfpjalgfikaaGreatDoor
open Go.RowKit
set_option linter.unusedVariables false
set_option linter.unusedSimpArgs false

theorem contains_any (s sub : ByteArray) (b : Nat) (w : World) (hs : s.size ≤ 1000) (hx : MaxB b w) : Calls Tryz.prog 66 #[.string s, .string sub] w fun e w' => ∃ q : Bool, e = .returned (.bool q) ∧ w = w' := by
  obtain ⟨m, hm⟩ := hx.1
  refine (Tryz.strings_Contains s sub m w (by omega) hm).mono ?_
  rintro e w' ⟨rfl, rfl⟩
  exact ⟨_, rfl, rfl⟩
set_option maxRecDepth 100000 in
set_option maxHeartbeats 1000000 in
theorem rightRoute_any (key : ByteArray) (b k : Nat) (w : World) (hs : SInv b w k) (hk : k < 4611686018426000000) (hx : MaxB b w) (hks : key.size ≤ 10) :
    Calls Tryz.prog 37 #[.pointer (some ⟨b, 0, none⟩), .string key] w (RRt b w (k + 20)) := by
  have hbl := hs.lt
  have HML0 : Hid (0 < w.heap.size) := Lib.hid hx.1.lt
  have hz0 : (w.alloc (.cells #[.string ⟨#[]⟩, .slice none 0 0, .string ⟨#[]⟩, .slice none 0 0, .slice none 0 0, .string ⟨#[]⟩] 44)).heap.size = w.heap.size + 1 := by simp
  have hR := Blk.new w 44 #[.string ⟨#[]⟩, .slice none 0 0, .string ⟨#[]⟩, .slice none 0 0, .slice none 0 0, .string ⟨#[]⟩]
  have T0 := (SStep.refl hs).alloc (.cells #[.string ⟨#[]⟩, .slice none 0 0, .string ⟨#[]⟩, .slice none 0 0, .slice none 0 0, .string ⟨#[]⟩] 44)
  go_enter Tryz.func37, Tryz.ntmps37
  go_upto_region 1 with fail
  generalize w.alloc (.cells #[.string ⟨#[]⟩, .slice none 0 0, .string ⟨#[]⟩, .slice none 0 0, .slice none 0 0, .string ⟨#[]⟩] 44) = w0 at *
  generalize hrb : w.heap.size = rb at *
  go_wp2_with fail
  refine (some_any [⟨#[47, 97]⟩, ⟨#[47, 97]⟩, ⟨#[47, 97, 47, 98]⟩, ⟨#[47, 97, 47, 123, 105, 100, 125]⟩, ⟨#[47, 123, 105, 100, 125]⟩, ⟨#[47, 97, 47, 123, 105, 100, 125, 47, 98]⟩, ⟨#[47, 123, 114, 101, 115, 116, 42, 125]⟩, ⟨#[47, 97, 47, 123, 114, 101, 115, 116, 42, 125]⟩, ⟨#[47]⟩, ⟨#[47, 97, 47]⟩] b k (rb + 1) 10 _ (T0.alloc _).inv (by omega) (Blk.new' _ _ hz0) rfl (by omega) (by omega)).mono ?_
  rintro e w1 ⟨pa, rfl, hpa, h1⟩
  have HPA : Hid (pa.size ≤ 300) := Lib.hid (by
    simp only [List.mem_cons, List.not_mem_nil, or_false] at hpa
    rcases hpa with rfl | rfl | rfl | rfl | rfl | rfl | rfl | rfl | rfl | rfl
    all_goals decide)
  have T1 := (T0.alloc (.cells #[.string ⟨#[47, 97]⟩, .string ⟨#[47, 97]⟩, .string ⟨#[47, 97, 47, 98]⟩, .string ⟨#[47, 97, 47, 123, 105, 100, 125]⟩, .string ⟨#[47, 123, 105, 100, 125]⟩, .string ⟨#[47, 97, 47, 123, 105, 100, 125, 47, 98]⟩, .string ⟨#[47, 123, 114, 101, 115, 116, 42, 125]⟩, .string ⟨#[47, 97, 47, 123, 114, 101, 115, 116, 42, 125]⟩, .string ⟨#[47]⟩, .string ⟨#[47, 97, 47]⟩] 9)).trans h1
  have HRB1 := Lib.hid ((hR.keepA (.cells #[.string ⟨#[47, 97]⟩, .string ⟨#[47, 97]⟩, .string ⟨#[47, 97, 47, 98]⟩, .string ⟨#[47, 97, 47, 123, 105, 100, 125]⟩, .string ⟨#[47, 123, 105, 100, 125]⟩, .string ⟨#[47, 97, 47, 123, 105, 100, 125, 47, 98]⟩, .string ⟨#[47, 123, 114, 101, 115, 116, 42, 125]⟩, .string ⟨#[47, 97, 47, 123, 114, 101, 115, 116, 42, 125]⟩, .string ⟨#[47]⟩, .string ⟨#[47, 97, 47]⟩] 9)).mod h1.only (by omega))
  have HMX1 := Lib.hid (hx.stream T1)
  clear h1 hpa hR hx
  go_upto_region 2 with fail
  have hbx := Blk.new w1 44 #[.string key, .slice none 0 0, .string pa, .slice none 0 0, .slice none 0 0, .string ⟨#[]⟩]
  have T2 := T1.alloc (.cells #[.string key, .slice none 0 0, .string pa, .slice none 0 0, .slice none 0 0, .string ⟨#[]⟩] 44)
  have HI0 : Hid (RtIn (w1.alloc (.cells #[.string key, .slice none 0 0, .string pa, .slice none 0 0, .slice none 0 0, .string ⟨#[]⟩] 44)) w1.heap.size ⟨key, none, 0, 0, pa, none, 0, 0, none, 0, 0, ⟨#[]⟩⟩ ⟨key, [], pa, [], [], ⟨#[]⟩⟩) := Lib.hid ⟨hbx, ⟨rfl, rfl, rfl, Sl.nil, Sl.nil, Sl.nil, Nat.le_refl _, Nat.le_refl _, Nat.le_refl _⟩, ⟨hks, HPA.out, Nat.zero_le _, by simp, by simp, by simp⟩⟩
  have HRB0 := Lib.hid (HRB1.out.keepA (.cells #[.string key, .slice none 0 0, .string pa, .slice none 0 0, .slice none 0 0, .string ⟨#[]⟩] 44))
  have HML : Hid (0 < rb) := HML0
  have HMX0 : Hid (MaxB b (w1.alloc (.cells #[.string key, .slice none 0 0, .string pa, .slice none 0 0, .slice none 0 0, .string ⟨#[]⟩] 44))) := Lib.hid (HMX1.out.stream ((SStep.refl T1.inv).alloc _))
  have hxb : rb < w1.heap.size := HRB1.out.lt
  have T := T2.more (show k + 1 ≤ k + 2 by omega)
  clear hbx T1 T2 HPA HRB1 HMX1 hs T0 hz0
  generalize w1.alloc (.cells #[.string key, .slice none 0 0, .string pa, .slice none 0 0, .slice none 0 0, .string ⟨#[]⟩] 44) = w2 at *
  generalize w1.heap.size = xb at *
  have hbxb : b < xb := by omega
  go_upto_if 12 with (first | (refine (flip_any b _ 2 _ T.inv (by omega) (by omega) (by omega)).mono ?_; rintro e w3 ⟨q, rfl, h3⟩))
  have HI := Lib.hid (HI0.out.stream T.inv h3)
  have HRB := Lib.hid (HRB0.out.mod h3.only (by omega))
  have HMX := Lib.hid (HMX0.out.stream h3)
  have T3 := T.trans h3
  clear h3 HI0 HRB0 HMX0 T
  have T := T3
  clear T3
  go_cut [] (fun wx => ∃ x r, Hid (RtIn wx xb x r) ∧ Hid (Blk wx rb 44 #[.string ⟨#[]⟩, .slice none 0 0, .string ⟨#[]⟩, .slice none 0 0, .slice none 0 0, .string ⟨#[]⟩]) ∧ Hid (SStep b w wx (k + 8)) ∧ Hid (MaxB b wx))
  case first =>
    cases q
    · go_wp2_with fail
      go_meet
      case rel => exact ⟨_, _, HI, HRB, Lib.hid (T.more (by omega)), HMX⟩
    · have L := lit5 w3 9 41 (#[.string ⟨#[97, 46, 98]⟩]) (#[.string ⟨#[42, 46, 98]⟩]) (#[.string ⟨#[42, 46, 97, 46, 98]⟩, .string ⟨#[99, 46, 100, 58, 56, 48, 56, 48]⟩]) (#[.string ⟨#[120, 46, 97, 46, 98]⟩]) (#[.slice (some ⟨w3.heap.size, 0, none⟩) 1 1, .slice (some ⟨w3.heap.size + 1, 0, none⟩) 1 1, .slice (some ⟨w3.heap.size + 1 + 1, 0, none⟩) 2 2, .slice (some ⟨w3.heap.size + 1 + 1 + 1, 0, none⟩) 1 1])
      go_wp2_with fail
      refine (next_any b _ 4 _ (T.new L.new).inv (by omega) (by omega) (by omega)).mono ?_
      rintro e w4 ⟨m, rfl, m0, m1, h4⟩
      have hwb : b < w3.heap.size := by have := T.only.size; omega
      have b0 := L.b0.mod h4.only (by omega)
      have b1 := L.b1.mod h4.only (by omega)
      have b2 := L.b2.mod h4.only (by omega)
      have b3 := L.b3.mod h4.only (by omega)
      have b4 := L.b4.mod h4.only (by omega)
      have HI4 := Lib.hid ((HI.out.new L.new).stream (T.new L.new).inv h4)
      have HRB4 := Lib.hid ((HRB.out.mod L.new (fun e => e)).mod h4.only (by omega))
      have HMX4 := Lib.hid ((HMX.out.mod L.new (fun e => e)).stream h4)
      have T4 := (T.new L.new).trans h4
      have hob := b4.lt
      clear HI HRB HMX T L h4
      have HI := HI4
      have HRB := HRB4
      have HMX := HMX4
      have T := T4
      clear HI4 HRB4 HMX4 T4
      obtain rfl | rfl | rfl | rfl : m = 0 ∨ m = 1 ∨ m = 2 ∨ m = 3 := by omega
      · have c := b4.cell 0
        simp only [List.getElem?_toArray, List.getElem?_cons_zero, List.getElem?_cons_succ] at c
        have q0 := HI.out.blk.cell 0
        have q1 := HI.out.blk.cell 1
        have q2 := HI.out.blk.cell 2
        have q3 := HI.out.blk.cell 3
        have q4 := HI.out.blk.cell 4
        have q5 := HI.out.blk.cell 5
        have qf := HI.out.blk.frozen
        have ql := HI.out.blk.lt
        simp only [List.getElem?_toArray, List.getElem?_cons_zero, List.getElem?_cons_succ] at q0 q1 q2 q3 q4 q5
        have HF := Lib.hid (RtIn.hosts HI.out (strs_row (ws := [⟨#[97, 46, 98]⟩]) b0) (Nat.le_refl _) (by decide +kernel))
        have HS := Mod.setCell (S := fun i => i = xb) (p := ⟨xb, 1, none⟩) (Mod.refl _ w4) (.inl rfl) (.slice (some ⟨w3.heap.size, 0, none⟩) 1 1)
        have HRF := Lib.hid (HRB.out.mod HS (by omega))
        have HMF := Lib.hid (HMX.out.mod HS (by have := HML.out; omega))
        have TF := Lib.hid ((T.set (p := ⟨xb, 1, none⟩) (by show w.heap.size ≤ xb; omega) (.slice (some ⟨w3.heap.size, 0, none⟩) 1 1)).more (show _ ≤ k + 8 by omega))
        clear HS HI HRB HMX T b0 b1 b2 b3 b4
        go_wp2_with fail
        go_meet
        case rel => exact ⟨_, _, HF, HRF, TF, HMF⟩
      · have c := b4.cell 1
        simp only [List.getElem?_toArray, List.getElem?_cons_zero, List.getElem?_cons_succ] at c
        have q0 := HI.out.blk.cell 0
        have q1 := HI.out.blk.cell 1
        have q2 := HI.out.blk.cell 2
        have q3 := HI.out.blk.cell 3
        have q4 := HI.out.blk.cell 4
        have q5 := HI.out.blk.cell 5
        have qf := HI.out.blk.frozen
        have ql := HI.out.blk.lt
        simp only [List.getElem?_toArray, List.getElem?_cons_zero, List.getElem?_cons_succ] at q0 q1 q2 q3 q4 q5
        have HF := Lib.hid (RtIn.hosts HI.out (strs_row (ws := [⟨#[42, 46, 98]⟩]) b1) (Nat.le_refl _) (by decide +kernel))
        have HS := Mod.setCell (S := fun i => i = xb) (p := ⟨xb, 1, none⟩) (Mod.refl _ w4) (.inl rfl) (.slice (some ⟨w3.heap.size + 1, 0, none⟩) 1 1)
        have HRF := Lib.hid (HRB.out.mod HS (by omega))
        have HMF := Lib.hid (HMX.out.mod HS (by have := HML.out; omega))
        have TF := Lib.hid ((T.set (p := ⟨xb, 1, none⟩) (by show w.heap.size ≤ xb; omega) (.slice (some ⟨w3.heap.size + 1, 0, none⟩) 1 1)).more (show _ ≤ k + 8 by omega))
        clear HS HI HRB HMX T b0 b1 b2 b3 b4
        go_wp2_with fail
        go_meet
        case rel => exact ⟨_, _, HF, HRF, TF, HMF⟩
      · have c := b4.cell 2
        simp only [List.getElem?_toArray, List.getElem?_cons_zero, List.getElem?_cons_succ] at c
        have q0 := HI.out.blk.cell 0
        have q1 := HI.out.blk.cell 1
        have q2 := HI.out.blk.cell 2
        have q3 := HI.out.blk.cell 3
        have q4 := HI.out.blk.cell 4
        have q5 := HI.out.blk.cell 5
        have qf := HI.out.blk.frozen
        have ql := HI.out.blk.lt
        simp only [List.getElem?_toArray, List.getElem?_cons_zero, List.getElem?_cons_succ] at q0 q1 q2 q3 q4 q5
        have HF := Lib.hid (RtIn.hosts HI.out (strs_row (ws := [⟨#[42, 46, 97, 46, 98]⟩, ⟨#[99, 46, 100, 58, 56, 48, 56, 48]⟩]) b2) (Nat.le_refl _) (by decide +kernel))
        have HS := Mod.setCell (S := fun i => i = xb) (p := ⟨xb, 1, none⟩) (Mod.refl _ w4) (.inl rfl) (.slice (some ⟨w3.heap.size + 1 + 1, 0, none⟩) 2 2)
        have HRF := Lib.hid (HRB.out.mod HS (by omega))
        have HMF := Lib.hid (HMX.out.mod HS (by have := HML.out; omega))
        have TF := Lib.hid ((T.set (p := ⟨xb, 1, none⟩) (by show w.heap.size ≤ xb; omega) (.slice (some ⟨w3.heap.size + 1 + 1, 0, none⟩) 2 2)).more (show _ ≤ k + 8 by omega))
        clear HS HI HRB HMX T b0 b1 b2 b3 b4
        go_wp2_with fail
        go_meet
        case rel => exact ⟨_, _, HF, HRF, TF, HMF⟩
      · have c := b4.cell 3
        simp only [List.getElem?_toArray, List.getElem?_cons_zero, List.getElem?_cons_succ] at c
        have q0 := HI.out.blk.cell 0
        have q1 := HI.out.blk.cell 1
        have q2 := HI.out.blk.cell 2
        have q3 := HI.out.blk.cell 3
        have q4 := HI.out.blk.cell 4
        have q5 := HI.out.blk.cell 5
        have qf := HI.out.blk.frozen
        have ql := HI.out.blk.lt
        simp only [List.getElem?_toArray, List.getElem?_cons_zero, List.getElem?_cons_succ] at q0 q1 q2 q3 q4 q5
        have HF := Lib.hid (RtIn.hosts HI.out (strs_row (ws := [⟨#[120, 46, 97, 46, 98]⟩]) b3) (Nat.le_refl _) (by decide +kernel))
        have HS := Mod.setCell (S := fun i => i = xb) (p := ⟨xb, 1, none⟩) (Mod.refl _ w4) (.inl rfl) (.slice (some ⟨w3.heap.size + 1 + 1 + 1, 0, none⟩) 1 1)
        have HRF := Lib.hid (HRB.out.mod HS (by omega))
        have HMF := Lib.hid (HMX.out.mod HS (by have := HML.out; omega))
        have TF := Lib.hid ((T.set (p := ⟨xb, 1, none⟩) (by show w.heap.size ≤ xb; omega) (.slice (some ⟨w3.heap.size + 1 + 1 + 1, 0, none⟩) 1 1)).more (show _ ≤ k + 8 by omega))
        clear HS HI HRB HMX T b0 b1 b2 b3 b4
        go_wp2_with fail
        go_meet
        case rel => exact ⟨_, _, HF, HRF, TF, HMF⟩
  case rest =>
    rename World => w2
    obtain ⟨x, r, HI0, HRB0, T0, HMX0⟩ := hcut
    have T := T0.out
    clear T0
    go_upto_if 24 with (first | (refine (flip_any b _ 3 _ T.inv (by omega) (by omega) (by omega)).mono ?_; rintro e w3 ⟨q, rfl, h3⟩))
    have HI := Lib.hid (HI0.out.stream T.inv h3)
    have HRB := Lib.hid (HRB0.out.mod h3.only (by omega))
    have HMX := Lib.hid (HMX0.out.stream h3)
    have T3 := T.trans h3
    clear h3 HI0 HRB0 HMX0 T
    have T := T3
    clear T3
    go_cut [] (fun wx => ∃ x r, Hid (RtIn wx xb x r) ∧ Hid (Blk wx rb 44 #[.string ⟨#[]⟩, .slice none 0 0, .string ⟨#[]⟩, .slice none 0 0, .slice none 0 0, .string ⟨#[]⟩]) ∧ Hid (SStep b w wx (k + 11)) ∧ Hid (MaxB b wx))
    case first =>
      cases q
      · go_wp2_with fail
        go_meet
        case rel => exact ⟨_, _, HI, HRB, Lib.hid (T.more (by omega)), HMX⟩
      · have L := lit4 w3 9 41 (#[.string ⟨#[71, 69, 84]⟩]) (#[.string ⟨#[71, 69, 84]⟩, .string ⟨#[80, 79, 83, 84]⟩]) (#[.string ⟨#[80, 85, 84]⟩]) (#[.slice (some ⟨w3.heap.size, 0, none⟩) 1 1, .slice (some ⟨w3.heap.size + 1, 0, none⟩) 2 2, .slice (some ⟨w3.heap.size + 1 + 1, 0, none⟩) 1 1])
        go_wp2_with fail
        refine (next_any b _ 3 _ (T.new L.new).inv (by omega) (by omega) (by omega)).mono ?_
        rintro e w4 ⟨m, rfl, m0, m1, h4⟩
        have hwb : b < w3.heap.size := by have := T.only.size; omega
        have b0 := L.b0.mod h4.only (by omega)
        have b1 := L.b1.mod h4.only (by omega)
        have b2 := L.b2.mod h4.only (by omega)
        have b3 := L.b3.mod h4.only (by omega)
        have HI4 := Lib.hid ((HI.out.new L.new).stream (T.new L.new).inv h4)
        have HRB4 := Lib.hid ((HRB.out.mod L.new (fun e => e)).mod h4.only (by omega))
        have HMX4 := Lib.hid ((HMX.out.mod L.new (fun e => e)).stream h4)
        have T4 := (T.new L.new).trans h4
        have hob := b3.lt
        clear HI HRB HMX T L h4
        have HI := HI4
        have HRB := HRB4
        have HMX := HMX4
        have T := T4
        clear HI4 HRB4 HMX4 T4
        obtain rfl | rfl | rfl : m = 0 ∨ m = 1 ∨ m = 2 := by omega
        · have c := b3.cell 0
          simp only [List.getElem?_toArray, List.getElem?_cons_zero, List.getElem?_cons_succ] at c
          have q0 := HI.out.blk.cell 0
          have q1 := HI.out.blk.cell 1
          have q2 := HI.out.blk.cell 2
          have q3 := HI.out.blk.cell 3
          have q4 := HI.out.blk.cell 4
          have q5 := HI.out.blk.cell 5
          have qf := HI.out.blk.frozen
          have ql := HI.out.blk.lt
          simp only [List.getElem?_toArray, List.getElem?_cons_zero, List.getElem?_cons_succ] at q0 q1 q2 q3 q4 q5
          have HF := Lib.hid (RtIn.methods HI.out (strs_row (ws := [⟨#[71, 69, 84]⟩]) b0) (Nat.le_refl _) (by decide +kernel))
          have HS := Mod.setCell (S := fun i => i = xb) (p := ⟨xb, 3, none⟩) (Mod.refl _ w4) (.inl rfl) (.slice (some ⟨w3.heap.size, 0, none⟩) 1 1)
          have HRF := Lib.hid (HRB.out.mod HS (by omega))
          have HMF := Lib.hid (HMX.out.mod HS (by have := HML.out; omega))
          have TF := Lib.hid ((T.set (p := ⟨xb, 3, none⟩) (by show w.heap.size ≤ xb; omega) (.slice (some ⟨w3.heap.size, 0, none⟩) 1 1)).more (show _ ≤ k + 11 by omega))
          clear HS HI HRB HMX T b0 b1 b2 b3
          go_wp2_with fail
          go_meet
          case rel => exact ⟨_, _, HF, HRF, TF, HMF⟩
        · have c := b3.cell 1
          simp only [List.getElem?_toArray, List.getElem?_cons_zero, List.getElem?_cons_succ] at c
          have q0 := HI.out.blk.cell 0
          have q1 := HI.out.blk.cell 1
          have q2 := HI.out.blk.cell 2
          have q3 := HI.out.blk.cell 3
          have q4 := HI.out.blk.cell 4
          have q5 := HI.out.blk.cell 5
          have qf := HI.out.blk.frozen
          have ql := HI.out.blk.lt
          simp only [List.getElem?_toArray, List.getElem?_cons_zero, List.getElem?_cons_succ] at q0 q1 q2 q3 q4 q5
          have HF := Lib.hid (RtIn.methods HI.out (strs_row (ws := [⟨#[71, 69, 84]⟩, ⟨#[80, 79, 83, 84]⟩]) b1) (Nat.le_refl _) (by decide +kernel))
          have HS := Mod.setCell (S := fun i => i = xb) (p := ⟨xb, 3, none⟩) (Mod.refl _ w4) (.inl rfl) (.slice (some ⟨w3.heap.size + 1, 0, none⟩) 2 2)
          have HRF := Lib.hid (HRB.out.mod HS (by omega))
          have HMF := Lib.hid (HMX.out.mod HS (by have := HML.out; omega))
          have TF := Lib.hid ((T.set (p := ⟨xb, 3, none⟩) (by show w.heap.size ≤ xb; omega) (.slice (some ⟨w3.heap.size + 1, 0, none⟩) 2 2)).more (show _ ≤ k + 11 by omega))
          clear HS HI HRB HMX T b0 b1 b2 b3
          go_wp2_with fail
          go_meet
          case rel => exact ⟨_, _, HF, HRF, TF, HMF⟩
        · have c := b3.cell 2
          simp only [List.getElem?_toArray, List.getElem?_cons_zero, List.getElem?_cons_succ] at c
          have q0 := HI.out.blk.cell 0
          have q1 := HI.out.blk.cell 1
          have q2 := HI.out.blk.cell 2
          have q3 := HI.out.blk.cell 3
          have q4 := HI.out.blk.cell 4
          have q5 := HI.out.blk.cell 5
          have qf := HI.out.blk.frozen
          have ql := HI.out.blk.lt
          simp only [List.getElem?_toArray, List.getElem?_cons_zero, List.getElem?_cons_succ] at q0 q1 q2 q3 q4 q5
          have HF := Lib.hid (RtIn.methods HI.out (strs_row (ws := [⟨#[80, 85, 84]⟩]) b2) (Nat.le_refl _) (by decide +kernel))
          have HS := Mod.setCell (S := fun i => i = xb) (p := ⟨xb, 3, none⟩) (Mod.refl _ w4) (.inl rfl) (.slice (some ⟨w3.heap.size + 1 + 1, 0, none⟩) 1 1)
          have HRF := Lib.hid (HRB.out.mod HS (by omega))
          have HMF := Lib.hid (HMX.out.mod HS (by have := HML.out; omega))
          have TF := Lib.hid ((T.set (p := ⟨xb, 3, none⟩) (by show w.heap.size ≤ xb; omega) (.slice (some ⟨w3.heap.size + 1 + 1, 0, none⟩) 1 1)).more (show _ ≤ k + 11 by omega))
          clear HS HI HRB HMX T b0 b1 b2 b3
          go_wp2_with fail
          go_meet
          case rel => exact ⟨_, _, HF, HRF, TF, HMF⟩
    case rest =>
      rename World => w2
      obtain ⟨x, r, HI0, HRB0, T0, HMX0⟩ := hcut
      have T := T0.out
      clear T0
      go_upto_if 35 with (first | (refine (flip_any b _ 4 _ T.inv (by omega) (by omega) (by omega)).mono ?_; rintro e w3 ⟨q, rfl, h3⟩))
      have HI := Lib.hid (HI0.out.stream T.inv h3)
      have HRB := Lib.hid (HRB0.out.mod h3.only (by omega))
      have HMX := Lib.hid (HMX0.out.stream h3)
      have T3 := T.trans h3
      clear h3 HI0 HRB0 HMX0 T
      have T := T3
      clear T3
      go_cut [] (fun wx => ∃ x r, Hid (RtIn wx xb x r) ∧ Hid (Blk wx rb 44 #[.string ⟨#[]⟩, .slice none 0 0, .string ⟨#[]⟩, .slice none 0 0, .slice none 0 0, .string ⟨#[]⟩]) ∧ Hid (SStep b w wx (k + 14)) ∧ Hid (MaxB b wx))
      case first =>
        cases q
        · go_wp2_with fail
          go_meet
          case rel => exact ⟨_, _, HI, HRB, Lib.hid (T.more (by omega)), HMX⟩
        · have L := lit4 w3 55 42 (#[.string ⟨#[120, 45, 111, 110, 101]⟩, .string ⟨#[49]⟩]) (#[.string ⟨#[120, 45, 111, 110, 101]⟩, .string ⟨#[42]⟩]) (#[.string ⟨#[120, 45, 111, 110, 101]⟩, .string ⟨#[49]⟩, .string ⟨#[120, 45, 116, 119, 111]⟩, .string ⟨#[]⟩]) (#[.slice (some ⟨w3.heap.size, 0, none⟩) 1 1, .slice (some ⟨w3.heap.size + 1, 0, none⟩) 1 1, .slice (some ⟨w3.heap.size + 1 + 1, 0, none⟩) 2 2])
          go_wp2_with fail
          refine (next_any b _ 3 _ (T.new L.new).inv (by omega) (by omega) (by omega)).mono ?_
          rintro e w4 ⟨m, rfl, m0, m1, h4⟩
          have hwb : b < w3.heap.size := by have := T.only.size; omega
          have b0 := L.b0.mod h4.only (by omega)
          have b1 := L.b1.mod h4.only (by omega)
          have b2 := L.b2.mod h4.only (by omega)
          have b3 := L.b3.mod h4.only (by omega)
          have HI4 := Lib.hid ((HI.out.new L.new).stream (T.new L.new).inv h4)
          have HRB4 := Lib.hid ((HRB.out.mod L.new (fun e => e)).mod h4.only (by omega))
          have HMX4 := Lib.hid ((HMX.out.mod L.new (fun e => e)).stream h4)
          have T4 := (T.new L.new).trans h4
          have hob := b3.lt
          clear HI HRB HMX T L h4
          have HI := HI4
          have HRB := HRB4
          have HMX := HMX4
          have T := T4
          clear HI4 HRB4 HMX4 T4
          obtain rfl | rfl | rfl : m = 0 ∨ m = 1 ∨ m = 2 := by omega
          · have c := b3.cell 0
            simp only [List.getElem?_toArray, List.getElem?_cons_zero, List.getElem?_cons_succ] at c
            have q0 := HI.out.blk.cell 0
            have q1 := HI.out.blk.cell 1
            have q2 := HI.out.blk.cell 2
            have q3 := HI.out.blk.cell 3
            have q4 := HI.out.blk.cell 4
            have q5 := HI.out.blk.cell 5
            have qf := HI.out.blk.frozen
            have ql := HI.out.blk.lt
            simp only [List.getElem?_toArray, List.getElem?_cons_zero, List.getElem?_cons_succ] at q0 q1 q2 q3 q4 q5
            have HF := Lib.hid (RtIn.needs HI.out (pairs_row (ps := [(⟨#[120, 45, 111, 110, 101]⟩, ⟨#[49]⟩)]) b0) (Nat.le_refl _) (by decide +kernel))
            have HS := Mod.setCell (S := fun i => i = xb) (p := ⟨xb, 4, none⟩) (Mod.refl _ w4) (.inl rfl) (.slice (some ⟨w3.heap.size, 0, none⟩) 1 1)
            have HRF := Lib.hid (HRB.out.mod HS (by omega))
            have HMF := Lib.hid (HMX.out.mod HS (by have := HML.out; omega))
            have TF := Lib.hid ((T.set (p := ⟨xb, 4, none⟩) (by show w.heap.size ≤ xb; omega) (.slice (some ⟨w3.heap.size, 0, none⟩) 1 1)).more (show _ ≤ k + 14 by omega))
            clear HS HI HRB HMX T b0 b1 b2 b3
            go_wp2_with fail
            go_meet
            case rel => exact ⟨_, _, HF, HRF, TF, HMF⟩
          · have c := b3.cell 1
            simp only [List.getElem?_toArray, List.getElem?_cons_zero, List.getElem?_cons_succ] at c
            have q0 := HI.out.blk.cell 0
            have q1 := HI.out.blk.cell 1
            have q2 := HI.out.blk.cell 2
            have q3 := HI.out.blk.cell 3
            have q4 := HI.out.blk.cell 4
            have q5 := HI.out.blk.cell 5
            have qf := HI.out.blk.frozen
            have ql := HI.out.blk.lt
            simp only [List.getElem?_toArray, List.getElem?_cons_zero, List.getElem?_cons_succ] at q0 q1 q2 q3 q4 q5
            have HF := Lib.hid (RtIn.needs HI.out (pairs_row (ps := [(⟨#[120, 45, 111, 110, 101]⟩, ⟨#[42]⟩)]) b1) (Nat.le_refl _) (by decide +kernel))
            have HS := Mod.setCell (S := fun i => i = xb) (p := ⟨xb, 4, none⟩) (Mod.refl _ w4) (.inl rfl) (.slice (some ⟨w3.heap.size + 1, 0, none⟩) 1 1)
            have HRF := Lib.hid (HRB.out.mod HS (by omega))
            have HMF := Lib.hid (HMX.out.mod HS (by have := HML.out; omega))
            have TF := Lib.hid ((T.set (p := ⟨xb, 4, none⟩) (by show w.heap.size ≤ xb; omega) (.slice (some ⟨w3.heap.size + 1, 0, none⟩) 1 1)).more (show _ ≤ k + 14 by omega))
            clear HS HI HRB HMX T b0 b1 b2 b3
            go_wp2_with fail
            go_meet
            case rel => exact ⟨_, _, HF, HRF, TF, HMF⟩
          · have c := b3.cell 2
            simp only [List.getElem?_toArray, List.getElem?_cons_zero, List.getElem?_cons_succ] at c
            have q0 := HI.out.blk.cell 0
            have q1 := HI.out.blk.cell 1
            have q2 := HI.out.blk.cell 2
            have q3 := HI.out.blk.cell 3
            have q4 := HI.out.blk.cell 4
            have q5 := HI.out.blk.cell 5
            have qf := HI.out.blk.frozen
            have ql := HI.out.blk.lt
            simp only [List.getElem?_toArray, List.getElem?_cons_zero, List.getElem?_cons_succ] at q0 q1 q2 q3 q4 q5
            have HF := Lib.hid (RtIn.needs HI.out (pairs_row (ps := [(⟨#[120, 45, 111, 110, 101]⟩, ⟨#[49]⟩), (⟨#[120, 45, 116, 119, 111]⟩, ⟨#[]⟩)]) b2) (Nat.le_refl _) (by decide +kernel))
            have HS := Mod.setCell (S := fun i => i = xb) (p := ⟨xb, 4, none⟩) (Mod.refl _ w4) (.inl rfl) (.slice (some ⟨w3.heap.size + 1 + 1, 0, none⟩) 2 2)
            have HRF := Lib.hid (HRB.out.mod HS (by omega))
            have HMF := Lib.hid (HMX.out.mod HS (by have := HML.out; omega))
            have TF := Lib.hid ((T.set (p := ⟨xb, 4, none⟩) (by show w.heap.size ≤ xb; omega) (.slice (some ⟨w3.heap.size + 1 + 1, 0, none⟩) 2 2)).more (show _ ≤ k + 14 by omega))
            clear HS HI HRB HMX T b0 b1 b2 b3
            go_wp2_with fail
            go_meet
            case rel => exact ⟨_, _, HF, HRF, TF, HMF⟩
      case rest =>
        rename World => w2
        obtain ⟨x, r, HI0, HRB0, T0, HMX0⟩ := hcut
        have T := T0.out
        clear T0
        go_upto_if 50 with (first | (refine (flip_any b _ 3 _ T.inv (by omega) (by omega) (by omega)).mono ?_; rintro e w3 ⟨q, rfl, h3⟩))
        have HI := Lib.hid (HI0.out.stream T.inv h3)
        have HRB := Lib.hid (HRB0.out.mod h3.only (by omega))
        have HMX := Lib.hid (HMX0.out.stream h3)
        have T3 := T.trans h3
        clear h3 HI0 HRB0 HMX0 T
        have T := T3
        clear T3
        go_cut [] (fun wx => ∃ x r, Hid (RtIn wx xb x r) ∧ Hid (Blk wx rb 44 #[.string ⟨#[]⟩, .slice none 0 0, .string ⟨#[]⟩, .slice none 0 0, .slice none 0 0, .string ⟨#[]⟩]) ∧ Hid (SStep b w wx (k + 20)) ∧ Hid (MaxB b wx))
        case first =>
          cases q
          · go_wp2_with fail
            go_meet
            case rel => exact ⟨_, _, HI, HRB, Lib.hid (T.more (by omega)), HMX⟩
          · go_wp2_with fail
            refine (some_any [⟨#[47, 118, 50]⟩, ⟨#[47, 118, 50, 47, 120]⟩] b _ w3.heap.size 2 _ (T.alloc _).inv (by omega) (Blk.new _ _ _) rfl (by omega) (by omega)).mono ?_
            rintro e w4 ⟨v, rfl, hv, h4⟩
            have HVZ : Hid (v.size ≤ 300) := Lib.hid (by
              simp only [List.mem_cons, List.not_mem_nil, or_false] at hv
              rcases hv with rfl | rfl
              all_goals first | decide)
            have T4 := (T.alloc (.cells #[.string ⟨#[47, 118, 50]⟩, .string ⟨#[47, 118, 50, 47, 120]⟩] 9)).trans h4
            have HI4 := Lib.hid ((HI.out.new ((Mod.refl _ _).alloc (.cells #[.string ⟨#[47, 118, 50]⟩, .string ⟨#[47, 118, 50, 47, 120]⟩] 9))).stream (T.alloc _).inv h4)
            have HRB4 := Lib.hid ((HRB.out.keepA (.cells #[.string ⟨#[47, 118, 50]⟩, .string ⟨#[47, 118, 50, 47, 120]⟩] 9)).mod h4.only (by omega))
            have HMX4 := Lib.hid ((HMX.out.mod ((Mod.refl (fun _ => False) _).alloc (.cells #[.string ⟨#[47, 118, 50]⟩, .string ⟨#[47, 118, 50, 47, 120]⟩] 9)) (fun e => e)).stream h4)
            clear HI HRB HMX T h4 hv
            have HI := HI4
            have HRB := HRB4
            have HMX := HMX4
            have T := T4
            clear HI4 HRB4 HMX4 T4
            have q0 := HI.out.blk.cell 0
            have q1 := HI.out.blk.cell 1
            have q2 := HI.out.blk.cell 2
            have q3 := HI.out.blk.cell 3
            have q4 := HI.out.blk.cell 4
            have q5 := HI.out.blk.cell 5
            have qf := HI.out.blk.frozen
            have ql := HI.out.blk.lt
            simp only [List.getElem?_toArray, List.getElem?_cons_zero, List.getElem?_cons_succ] at q0 q1 q2 q3 q4 q5
            have HF := Lib.hid (RtIn.dest HI.out HVZ.out)
            have HS := Mod.setCell (S := fun i => i = xb) (p := ⟨xb, 5, none⟩) (Mod.refl _ w4) (.inl rfl) (.string v)
            have HRF := Lib.hid (HRB.out.mod HS (by omega))
            have HMF := Lib.hid (HMX.out.mod HS (by have := HML.out; omega))
            have TF := Lib.hid ((T.set (p := ⟨xb, 5, none⟩) (by show w.heap.size ≤ xb; omega) (.string v)).more (show _ ≤ k + 16 by omega))
            clear HS HI HRB HMX T
            go_upto_region 10 with fail
            clear q0 q1 q2 q3 q4 q5 qf ql
            generalize w4.setCell ⟨xb, 5, none⟩ (.string v) = w2 at *
            have HI0 := HF
            have HRB0 := HRF
            have HMX0 := HMF
            have T := TF.out
            clear HF HRF HMF TF
            obtain ⟨x, r, HI0⟩ : ∃ x r, Hid (RtIn w2 xb x r) := ⟨_, _, HI0⟩
            obtain ⟨p0, p1, p2, p3, p4, p5, p6, p7, p8, p9, pa_, pb_⟩ := x
            try simp only at HI0
            have z2 := HI0.out.at'.path
            have z3 := HI0.out.mini.path
            try simp only at z2
            have hct := contains_any p4 ⟨#[123, 105, 100, 125]⟩ b w2 (by rw [z2]; omega) HMX0.out
            clear z2 z3
            have HI := HI0
            have q0 := HI.out.blk.cell 0
            have q1 := HI.out.blk.cell 1
            have q2 := HI.out.blk.cell 2
            have q3 := HI.out.blk.cell 3
            have q4 := HI.out.blk.cell 4
            have q5 := HI.out.blk.cell 5
            have qf := HI.out.blk.frozen
            have ql := HI.out.blk.lt
            simp only [List.getElem?_toArray, List.getElem?_cons_zero, List.getElem?_cons_succ] at q0 q1 q2 q3 q4 q5
            go_upto_if 57 with (first | (refine hct.mono ?_; clear hct; rintro e w3 ⟨q, rfl, rfl⟩))
            clear q0 q1 q2 q3 q4 q5 qf ql HI
            have HI := HI0
            have HRB := HRB0
            have HMX := HMX0
            clear HI0 HRB0 HMX0
            go_cut [] (fun wx => ∃ x r, Hid (RtIn wx xb x r) ∧ Hid (Blk wx rb 44 #[.string ⟨#[]⟩, .slice none 0 0, .string ⟨#[]⟩, .slice none 0 0, .slice none 0 0, .string ⟨#[]⟩]) ∧ Hid (SStep b w wx (k + 18)) ∧ Hid (MaxB b wx))
            case first =>
              cases q
              · go_wp2_with fail
                go_meet
                case rel => exact ⟨_, _, HI, HRB, Lib.hid (T.more (by omega)), HMX⟩
              · go_wp2_with fail
                rename World => w3
                refine (some_any [⟨#[47, 118, 50, 47, 123, 105, 100, 125]⟩, ⟨#[47, 123, 105, 100, 125, 47, 121]⟩, ⟨#[47, 118, 50]⟩] b _ w3.heap.size 3 _ (T.alloc _).inv (by omega) (Blk.new _ _ _) rfl (by omega) (by omega)).mono ?_
                rintro e w4 ⟨v, rfl, hv, h4⟩
                have HVZ : Hid (v.size ≤ 300) := Lib.hid (by
                  simp only [List.mem_cons, List.not_mem_nil, or_false] at hv
                  rcases hv with rfl | rfl | rfl
                  all_goals first | decide)
                have T4 := (T.alloc (.cells #[.string ⟨#[47, 118, 50, 47, 123, 105, 100, 125]⟩, .string ⟨#[47, 123, 105, 100, 125, 47, 121]⟩, .string ⟨#[47, 118, 50]⟩] 9)).trans h4
                have HI4 := Lib.hid ((HI.out.new ((Mod.refl _ _).alloc (.cells #[.string ⟨#[47, 118, 50, 47, 123, 105, 100, 125]⟩, .string ⟨#[47, 123, 105, 100, 125, 47, 121]⟩, .string ⟨#[47, 118, 50]⟩] 9))).stream (T.alloc _).inv h4)
                have HRB4 := Lib.hid ((HRB.out.keepA (.cells #[.string ⟨#[47, 118, 50, 47, 123, 105, 100, 125]⟩, .string ⟨#[47, 123, 105, 100, 125, 47, 121]⟩, .string ⟨#[47, 118, 50]⟩] 9)).mod h4.only (by omega))
                have HMX4 := Lib.hid ((HMX.out.mod ((Mod.refl (fun _ => False) _).alloc (.cells #[.string ⟨#[47, 118, 50, 47, 123, 105, 100, 125]⟩, .string ⟨#[47, 123, 105, 100, 125, 47, 121]⟩, .string ⟨#[47, 118, 50]⟩] 9)) (fun e => e)).stream h4)
                clear HI HRB HMX T h4 hv
                have HI := HI4
                have HRB := HRB4
                have HMX := HMX4
                have T := T4
                clear HI4 HRB4 HMX4 T4
                have q0 := HI.out.blk.cell 0
                have q1 := HI.out.blk.cell 1
                have q2 := HI.out.blk.cell 2
                have q3 := HI.out.blk.cell 3
                have q4 := HI.out.blk.cell 4
                have q5 := HI.out.blk.cell 5
                have qf := HI.out.blk.frozen
                have ql := HI.out.blk.lt
                simp only [List.getElem?_toArray, List.getElem?_cons_zero, List.getElem?_cons_succ] at q0 q1 q2 q3 q4 q5
                have HF := Lib.hid (RtIn.dest HI.out HVZ.out)
                have HS := Mod.setCell (S := fun i => i = xb) (p := ⟨xb, 5, none⟩) (Mod.refl _ w4) (.inl rfl) (.string v)
                have HRF := Lib.hid (HRB.out.mod HS (by omega))
                have HMF := Lib.hid (HMX.out.mod HS (by have := HML.out; omega))
                have TF := Lib.hid ((T.set (p := ⟨xb, 5, none⟩) (by show w.heap.size ≤ xb; omega) (.string v)).more (show _ ≤ k + 18 by omega))
                clear HS HI HRB HMX T
                go_wp2_with fail
                go_meet
                case rel => exact ⟨_, _, HF, HRF, TF, HMF⟩
            case rest =>
              rename World => w2
              obtain ⟨x, r, HI0, HRB0, T0, HMX0⟩ := hcut
              have T := T0.out
              clear T0
              obtain ⟨p0, p1, p2, p3, p4, p5, p6, p7, p8, p9, pa_, pb_⟩ := x
              try simp only at HI0
              have z2 := HI0.out.at'.path
              have z3 := HI0.out.mini.path
              try simp only at z2
              have hct := contains_any p4 ⟨#[123, 114, 101, 115, 116, 42, 125]⟩ b w2 (by rw [z2]; omega) HMX0.out
              clear z2 z3
              have HI := HI0
              have q0 := HI.out.blk.cell 0
              have q1 := HI.out.blk.cell 1
              have q2 := HI.out.blk.cell 2
              have q3 := HI.out.blk.cell 3
              have q4 := HI.out.blk.cell 4
              have q5 := HI.out.blk.cell 5
              have qf := HI.out.blk.frozen
              have ql := HI.out.blk.lt
              simp only [List.getElem?_toArray, List.getElem?_cons_zero, List.getElem?_cons_succ] at q0 q1 q2 q3 q4 q5
              go_upto_if 64 with (first | (refine hct.mono ?_; clear hct; rintro e w3 ⟨q, rfl, rfl⟩))
              clear q0 q1 q2 q3 q4 q5 qf ql HI
              have HI := HI0
              have HRB := HRB0
              have HMX := HMX0
              clear HI0 HRB0 HMX0
              go_cut [] (fun wx => ∃ x r, Hid (RtIn wx xb x r) ∧ Hid (Blk wx rb 44 #[.string ⟨#[]⟩, .slice none 0 0, .string ⟨#[]⟩, .slice none 0 0, .slice none 0 0, .string ⟨#[]⟩]) ∧ Hid (SStep b w wx (k + 20)) ∧ Hid (MaxB b wx))
              case first =>
                cases q
                · go_wp2_with fail
                  go_meet
                  case rel => exact ⟨_, _, HI, HRB, Lib.hid (T.more (by omega)), HMX⟩
                · go_wp2_with fail
                  rename World => w3
                  refine (some_any [⟨#[47, 118, 50, 47, 123, 114, 101, 115, 116, 42, 125]⟩, ⟨#[47, 123, 114, 101, 115, 116, 42, 125]⟩, ⟨#[47, 118, 50]⟩] b _ w3.heap.size 3 _ (T.alloc _).inv (by omega) (Blk.new _ _ _) rfl (by omega) (by omega)).mono ?_
                  rintro e w4 ⟨v, rfl, hv, h4⟩
                  have HVZ : Hid (v.size ≤ 300) := Lib.hid (by
                    simp only [List.mem_cons, List.not_mem_nil, or_false] at hv
                    rcases hv with rfl | rfl | rfl
                    all_goals first | decide)
                  have T4 := (T.alloc (.cells #[.string ⟨#[47, 118, 50, 47, 123, 114, 101, 115, 116, 42, 125]⟩, .string ⟨#[47, 123, 114, 101, 115, 116, 42, 125]⟩, .string ⟨#[47, 118, 50]⟩] 9)).trans h4
                  have HI4 := Lib.hid ((HI.out.new ((Mod.refl _ _).alloc (.cells #[.string ⟨#[47, 118, 50, 47, 123, 114, 101, 115, 116, 42, 125]⟩, .string ⟨#[47, 123, 114, 101, 115, 116, 42, 125]⟩, .string ⟨#[47, 118, 50]⟩] 9))).stream (T.alloc _).inv h4)
                  have HRB4 := Lib.hid ((HRB.out.keepA (.cells #[.string ⟨#[47, 118, 50, 47, 123, 114, 101, 115, 116, 42, 125]⟩, .string ⟨#[47, 123, 114, 101, 115, 116, 42, 125]⟩, .string ⟨#[47, 118, 50]⟩] 9)).mod h4.only (by omega))
                  have HMX4 := Lib.hid ((HMX.out.mod ((Mod.refl (fun _ => False) _).alloc (.cells #[.string ⟨#[47, 118, 50, 47, 123, 114, 101, 115, 116, 42, 125]⟩, .string ⟨#[47, 123, 114, 101, 115, 116, 42, 125]⟩, .string ⟨#[47, 118, 50]⟩] 9)) (fun e => e)).stream h4)
                  clear HI HRB HMX T h4 hv
                  have HI := HI4
                  have HRB := HRB4
                  have HMX := HMX4
                  have T := T4
                  clear HI4 HRB4 HMX4 T4
                  have q0 := HI.out.blk.cell 0
                  have q1 := HI.out.blk.cell 1
                  have q2 := HI.out.blk.cell 2
                  have q3 := HI.out.blk.cell 3
                  have q4 := HI.out.blk.cell 4
                  have q5 := HI.out.blk.cell 5
                  have qf := HI.out.blk.frozen
                  have ql := HI.out.blk.lt
                  simp only [List.getElem?_toArray, List.getElem?_cons_zero, List.getElem?_cons_succ] at q0 q1 q2 q3 q4 q5
                  have HF := Lib.hid (RtIn.dest HI.out HVZ.out)
                  have HS := Mod.setCell (S := fun i => i = xb) (p := ⟨xb, 5, none⟩) (Mod.refl _ w4) (.inl rfl) (.string v)
                  have HRF := Lib.hid (HRB.out.mod HS (by omega))
                  have HMF := Lib.hid (HMX.out.mod HS (by have := HML.out; omega))
                  have TF := Lib.hid ((T.set (p := ⟨xb, 5, none⟩) (by show w.heap.size ≤ xb; omega) (.string v)).more (show _ ≤ k + 20 by omega))
                  clear HS HI HRB HMX T
                  go_wp2_with fail
                  go_meet
                  case rel => exact ⟨_, _, HF, HRF, TF, HMF⟩
              case rest =>
                rename World => w9
                obtain ⟨x, r, HI, HRB, T0, HMX⟩ := hcut
                have T := T0.out
                clear T0
                go_wp2_with fail
                go_meet
                case rel => exact ⟨x, r, HI, HRB, Lib.hid T, HMX⟩
        case rest =>
          rename World => w2
          obtain ⟨x, r, HI0, HRB0, T0, HMX0⟩ := hcut
          have T := T0.out
          clear T0
          have hcP := HI0.out.blk.cell
          have ql := HI0.out.blk.lt
          have hcR := HRB0.out.cell
          have hfR := HRB0.out.frozen
          have rlt := HRB0.out.lt
          have HAT := Lib.hid HI0.out.at'
          have HMN := Lib.hid HI0.out.mini
          have HTB := Lib.hid HRB0.out.tb
          have hmF := fun (v0 v1 v2 v3 v4 v5 : Value) => (Mod.setCell (S := fun i => i = rb) (p := ⟨rb, 5, none⟩) (Mod.setCell (S := fun i => i = rb) (p := ⟨rb, 4, none⟩) (Mod.setCell (S := fun i => i = rb) (p := ⟨rb, 3, none⟩) (Mod.setCell (S := fun i => i = rb) (p := ⟨rb, 2, none⟩) (Mod.setCell (S := fun i => i = rb) (p := ⟨rb, 1, none⟩) (Mod.setCell (S := fun i => i = rb) (p := ⟨rb, 0, none⟩) (Mod.refl _ w2) (.inl rfl) v0) (.inl rfl) v1) (.inl rfl) v2) (.inl rfl) v3) (.inl rfl) v4) (.inl rfl) v5)
          have HMF := Lib.hid hmF
          have HFIN : Hid (∀ W', Mod (fun i => i = rb) w2 W' → RtAt W' x r ∧ SStep b w W' (k + 20)) := Lib.hid (fun W' hm => ⟨⟨HAT.out.key, HAT.out.path, HAT.out.dest, HAT.out.hosts.mod hm (fun g hg e => hg.ne HTB.out (by decide) e), HAT.out.methods.mod hm (fun g hg e => hg.ne HTB.out (by decide) e), HAT.out.needs.mod hm (fun g hg e => hg.ne HTB.out (by decide) e), HAT.out.hcap, HAT.out.mcap, HAT.out.ncap⟩, ⟨T.lt, T.only.step hm (fun i hi e => by omega), (T.inv.mod hm (fun i hi e => by omega)).more (by omega)⟩⟩)
          clear hmF HI0 HRB0 HMX0
          obtain ⟨x0, x1, x2, x3, x4, x5, x6, x7, x8, x9, xa, xc⟩ := x
          go_wp2_with fail
          refine bodyPost_ret (v := RA.val ⟨x0, x1, x2, x3, x4, x5, x6, x7, x8, x9, xa, xc⟩) (by simp [results, Tryz.results37, go_sem, hcP, hcR, hfR, ql, rlt, RA.val]) rfl ?_
          exact ⟨_, r, rfl, (HFIN.out _ (HMF.out _ _ _ _ _ _)).1, HMN.out, (HFIN.out _ (HMF.out _ _ _ _ _ _)).2⟩
end Go.Proofs.YtnbcfpjalgfikaaGreatDoor

namespace Go.Proofs.YtnbcfpjalgfikaaGreatDoor
open Go.RowKit
set_option linter.unusedVariables false
set_option linter.unusedSimpArgs false

set_option maxRecDepth 100000 in
set_option maxHeartbeats 2000000 in
theorem oneRoute_any (key : ByteArray) (b k : Nat) (w : World) (hs : SInv b w k) (hk : k < 4611686018425000000) (hx : MaxB b w) (hks : key.size ≤ 10) :
    Calls Tryz.prog 16 #[.pointer (some ⟨b, 0, none⟩), .string key] w (RRt b w (k + 60)) := by
  have hbl := hs.lt
  have HML0 : Hid (0 < w.heap.size) := Lib.hid hx.1.lt
  have hR := Blk.new w 44 #[.string ⟨#[]⟩, .slice none 0 0, .string ⟨#[]⟩, .slice none 0 0, .slice none 0 0, .string ⟨#[]⟩]
  have T0 := (SStep.refl hs).alloc (.cells #[.string ⟨#[]⟩, .slice none 0 0, .string ⟨#[]⟩, .slice none 0 0, .slice none 0 0, .string ⟨#[]⟩] 44)
  have hx0 : MaxB b (w.alloc (.cells #[.string ⟨#[]⟩, .slice none 0 0, .string ⟨#[]⟩, .slice none 0 0, .slice none 0 0, .string ⟨#[]⟩] 44)) := hx.mod ((Mod.refl (fun _ => False) _).alloc _) (fun e => e)
  go_enter Tryz.func16, Tryz.ntmps16
  go_upto_region 1 with fail
  generalize w.alloc (.cells #[.string ⟨#[]⟩, .slice none 0 0, .string ⟨#[]⟩, .slice none 0 0, .slice none 0 0, .string ⟨#[]⟩] 44) = w0 at *
  generalize hrb : w.heap.size = rb at *
  have hrr := rightRoute_any key b k w0 T0.inv (by omega) hx0 hks
  go_wp2_with fail
  refine hrr.mono ?_
  clear hrr
  rintro e w1 ⟨⟨y0, y1, y2, y3, y4, y5, y6, y7, y8, y9, ya, yc⟩, r0, rfl, hat, hmi, h1⟩
  have HRB1 := Lib.hid (hR.mod h1.only (by omega))
  have HMX1 := Lib.hid (hx0.stream h1)
  have T1 := T0.trans h1
  have HAT := Lib.hid hat
  have HMI := Lib.hid hmi
  clear h1 hR hx hx0 hat hmi T0 hs
  simp only [RA.val]
  go_upto_region 2 with fail
  have hbx := Blk.new w1 44 #[.string y0, .slice y1 y2 y3, .string y4, .slice y5 y6 y7, .slice y8 y9 ya, .string yc]
  have T2 := T1.alloc (.cells #[.string y0, .slice y1 y2 y3, .string y4, .slice y5 y6 y7, .slice y8 y9 ya, .string yc] 44)
  have HI0 : Hid (∃ x r, RtIn (w1.alloc (.cells #[.string y0, .slice y1 y2 y3, .string y4, .slice y5 y6 y7, .slice y8 y9 ya, .string yc] 44)) w1.heap.size x r) := Lib.hid ⟨⟨y0, y1, y2, y3, y4, y5, y6, y7, y8, y9, ya, yc⟩, r0, hbx, HAT.out.new ((Mod.refl _ _).alloc _), HMI.out⟩
  have HRB0 := Lib.hid (HRB1.out.keepA (.cells #[.string y0, .slice y1 y2 y3, .string y4, .slice y5 y6 y7, .slice y8 y9 ya, .string yc] 44))
  have HML : Hid (0 < rb) := HML0
  have HMX0 : Hid (MaxB b (w1.alloc (.cells #[.string y0, .slice y1 y2 y3, .string y4, .slice y5 y6 y7, .slice y8 y9 ya, .string yc] 44))) := Lib.hid (HMX1.out.stream ((SStep.refl T1.inv).alloc _))
  have hxb : rb < w1.heap.size := HRB1.out.lt
  have T := T2.more (show k + 20 ≤ k + 21 by omega)
  clear hbx T1 T2 HRB1 HMX1 HAT HMI
  generalize w1.alloc (.cells #[.string y0, .slice y1 y2 y3, .string y4, .slice y5 y6 y7, .slice y8 y9 ya, .string yc] 44) = w2 at *
  generalize w1.heap.size = xb at *
  have hbxb : b < xb := by omega
  obtain ⟨x, r, hi0⟩ := HI0.out
  clear HI0
  have HI0 := Lib.hid hi0
  clear hi0
  go_upto_if 10 with (first | (refine (flip_any b _ 12 _ T.inv (by omega) (by omega) (by omega)).mono ?_; rintro e w3 ⟨q, rfl, h3⟩))
  have HI := Lib.hid (HI0.out.stream T.inv h3)
  have HRB := Lib.hid (HRB0.out.mod h3.only (by omega))
  have HMX := Lib.hid (HMX0.out.stream h3)
  have T3 := T.trans h3
  clear h3 HI0 HRB0 HMX0 T
  have T := T3
  clear T3
  go_cut [] (fun wx => ∃ x r, Hid (RtIn wx xb x r) ∧ Hid (Blk wx rb 44 #[.string ⟨#[]⟩, .slice none 0 0, .string ⟨#[]⟩, .slice none 0 0, .slice none 0 0, .string ⟨#[]⟩]) ∧ Hid (SStep b w wx (k + 40)) ∧ Hid (MaxB b wx))
  case first =>
    cases q
    · go_wp2_with fail
      go_meet
      case rel => exact ⟨_, _, HI, HRB, Lib.hid (T.more (by omega)), HMX⟩
    · go_wp2_with fail
      refine (next_any b _ 6 _ T.inv (by omega) (by omega) (by omega)).mono ?_
      rintro e w5 ⟨mm, rfl, n0, n1, h5⟩
      have HI5 := Lib.hid (HI.out.stream T.inv h5)
      have HRB5 := Lib.hid (HRB.out.mod h5.only (by omega))
      have HMX5 := Lib.hid (HMX.out.stream h5)
      have T5 := T.trans h5
      clear h5 HI HRB HMX T
      have HI := HI5
      have HRB := HRB5
      have HMX := HMX5
      have T := T5
      clear HI5 HRB5 HMX5 T5
      obtain rfl | rfl | rfl | rfl | rfl | rfl : mm = 0 ∨ mm = 1 ∨ mm = 2 ∨ mm = 3 ∨ mm = 4 ∨ mm = 5 := by omega
      · go_wp2_with fail
        refine (some_any [⟨#[]⟩, ⟨#[65]⟩, ⟨#[114, 97]⟩] b _ w5.heap.size 3 _ (T.alloc _).inv (by omega) (Blk.new _ _ _) rfl (by omega) (by omega)).mono ?_
        rintro e w4 ⟨v, rfl, hv, h4⟩
        have HVZ : Hid (v.size ≤ 10) := Lib.hid (by
          simp only [List.mem_cons, List.not_mem_nil, or_false] at hv
          rcases hv with rfl | rfl | rfl
          all_goals first | decide)
        have T4 := (T.alloc (.cells #[.string ⟨#[]⟩, .string ⟨#[65]⟩, .string ⟨#[114, 97]⟩] 9)).trans h4
        have HI4 := Lib.hid ((HI.out.new ((Mod.refl _ _).alloc (.cells #[.string ⟨#[]⟩, .string ⟨#[65]⟩, .string ⟨#[114, 97]⟩] 9))).stream (T.alloc _).inv h4)
        have HRB4 := Lib.hid ((HRB.out.keepA (.cells #[.string ⟨#[]⟩, .string ⟨#[65]⟩, .string ⟨#[114, 97]⟩] 9)).mod h4.only (by omega))
        have HMX4 := Lib.hid ((HMX.out.mod ((Mod.refl (fun _ => False) _).alloc (.cells #[.string ⟨#[]⟩, .string ⟨#[65]⟩, .string ⟨#[114, 97]⟩] 9)) (fun e => e)).stream h4)
        clear HI HRB HMX T h4 hv
        have HI := HI4
        have HRB := HRB4
        have HMX := HMX4
        have T := T4
        clear HI4 HRB4 HMX4 T4
        have q0 := HI.out.blk.cell 0
        have q1 := HI.out.blk.cell 1
        have q2 := HI.out.blk.cell 2
        have q3 := HI.out.blk.cell 3
        have q4 := HI.out.blk.cell 4
        have q5 := HI.out.blk.cell 5
        have qf := HI.out.blk.frozen
        have ql := HI.out.blk.lt
        simp only [List.getElem?_toArray, List.getElem?_cons_zero, List.getElem?_cons_succ] at q0 q1 q2 q3 q4 q5
        have HF := Lib.hid (RtIn.key HI.out HVZ.out)
        have HS := Mod.setCell (S := fun i => i = xb) (p := ⟨xb, 0, none⟩) (Mod.refl _ w4) (.inl rfl) (.string v)
        have HRF := Lib.hid (HRB.out.mod HS (by omega))
        have HMF := Lib.hid (HMX.out.mod HS (by have := HML.out; omega))
        have TF := Lib.hid ((T.set (p := ⟨xb, 0, none⟩) (by show w.heap.size ≤ xb; omega) (.string v)).more (show _ ≤ k + 40 by omega))
        clear HS HI HRB HMX T
        go_wp2_with fail
        go_meet
        case rel => exact ⟨_, _, HF, HRF, TF, HMF⟩
      · have L := lit7 w5 9 41 (#[.string ⟨#[65, 46, 98]⟩]) (#[.string ⟨#[97, 46, 98, 58, 56, 48]⟩]) (#[.string ⟨#[42, 46]⟩]) (#[.string ⟨#[42, 46, 42, 46, 98]⟩]) (#[.string ⟨#[97, 46, 98]⟩, .string ⟨#[97, 46, 98]⟩]) (#[.string ⟨#[]⟩]) (#[.slice (some ⟨w5.heap.size, 0, none⟩) 1 1, .slice (some ⟨w5.heap.size + 1, 0, none⟩) 1 1, .slice (some ⟨w5.heap.size + 1 + 1, 0, none⟩) 1 1, .slice (some ⟨w5.heap.size + 1 + 1 + 1, 0, none⟩) 1 1, .slice (some ⟨w5.heap.size + 1 + 1 + 1 + 1, 0, none⟩) 2 2, .slice (some ⟨w5.heap.size + 1 + 1 + 1 + 1 + 1, 0, none⟩) 1 1])
        go_wp2_with fail
        refine (next_any b _ 6 _ (T.new L.new).inv (by omega) (by omega) (by omega)).mono ?_
        rintro e w4 ⟨m, rfl, m0, m1, h4⟩
        have hwb : b < w5.heap.size := by have := T.only.size; omega
        have b0 := L.b0.mod h4.only (by omega)
        have b1 := L.b1.mod h4.only (by omega)
        have b2 := L.b2.mod h4.only (by omega)
        have b3 := L.b3.mod h4.only (by omega)
        have b4 := L.b4.mod h4.only (by omega)
        have b5 := L.b5.mod h4.only (by omega)
        have b6 := L.b6.mod h4.only (by omega)
        have HI4 := Lib.hid ((HI.out.new L.new).stream (T.new L.new).inv h4)
        have HRB4 := Lib.hid ((HRB.out.mod L.new (fun e => e)).mod h4.only (by omega))
        have HMX4 := Lib.hid ((HMX.out.mod L.new (fun e => e)).stream h4)
        have T4 := (T.new L.new).trans h4
        have hob := b6.lt
        clear HI HRB HMX T L h4
        have HI := HI4
        have HRB := HRB4
        have HMX := HMX4
        have T := T4
        clear HI4 HRB4 HMX4 T4
        obtain rfl | rfl | rfl | rfl | rfl | rfl : m = 0 ∨ m = 1 ∨ m = 2 ∨ m = 3 ∨ m = 4 ∨ m = 5 := by omega
        · have c := b6.cell 0
          simp only [List.getElem?_toArray, List.getElem?_cons_zero, List.getElem?_cons_succ] at c
          have q0 := HI.out.blk.cell 0
          have q1 := HI.out.blk.cell 1
          have q2 := HI.out.blk.cell 2
          have q3 := HI.out.blk.cell 3
          have q4 := HI.out.blk.cell 4
          have q5 := HI.out.blk.cell 5
          have qf := HI.out.blk.frozen
          have ql := HI.out.blk.lt
          simp only [List.getElem?_toArray, List.getElem?_cons_zero, List.getElem?_cons_succ] at q0 q1 q2 q3 q4 q5
          have HF := Lib.hid (RtIn.hosts HI.out (strs_row (ws := [⟨#[65, 46, 98]⟩]) b0) (Nat.le_refl _) (by decide +kernel))
          have HS := Mod.setCell (S := fun i => i = xb) (p := ⟨xb, 1, none⟩) (Mod.refl _ w4) (.inl rfl) (.slice (some ⟨w5.heap.size, 0, none⟩) 1 1)
          have HRF := Lib.hid (HRB.out.mod HS (by omega))
          have HMF := Lib.hid (HMX.out.mod HS (by have := HML.out; omega))
          have TF := Lib.hid ((T.set (p := ⟨xb, 1, none⟩) (by show w.heap.size ≤ xb; omega) (.slice (some ⟨w5.heap.size, 0, none⟩) 1 1)).more (show _ ≤ k + 40 by omega))
          clear HS HI HRB HMX T b0 b1 b2 b3 b4 b5 b6
          go_wp2_with fail
          go_meet
          case rel => exact ⟨_, _, HF, HRF, TF, HMF⟩
        · have c := b6.cell 1
          simp only [List.getElem?_toArray, List.getElem?_cons_zero, List.getElem?_cons_succ] at c
          have q0 := HI.out.blk.cell 0
          have q1 := HI.out.blk.cell 1
          have q2 := HI.out.blk.cell 2
          have q3 := HI.out.blk.cell 3
          have q4 := HI.out.blk.cell 4
          have q5 := HI.out.blk.cell 5
          have qf := HI.out.blk.frozen
          have ql := HI.out.blk.lt
          simp only [List.getElem?_toArray, List.getElem?_cons_zero, List.getElem?_cons_succ] at q0 q1 q2 q3 q4 q5
          have HF := Lib.hid (RtIn.hosts HI.out (strs_row (ws := [⟨#[97, 46, 98, 58, 56, 48]⟩]) b1) (Nat.le_refl _) (by decide +kernel))
          have HS := Mod.setCell (S := fun i => i = xb) (p := ⟨xb, 1, none⟩) (Mod.refl _ w4) (.inl rfl) (.slice (some ⟨w5.heap.size + 1, 0, none⟩) 1 1)
          have HRF := Lib.hid (HRB.out.mod HS (by omega))
          have HMF := Lib.hid (HMX.out.mod HS (by have := HML.out; omega))
          have TF := Lib.hid ((T.set (p := ⟨xb, 1, none⟩) (by show w.heap.size ≤ xb; omega) (.slice (some ⟨w5.heap.size + 1, 0, none⟩) 1 1)).more (show _ ≤ k + 40 by omega))
          clear HS HI HRB HMX T b0 b1 b2 b3 b4 b5 b6
          go_wp2_with fail
          go_meet
          case rel => exact ⟨_, _, HF, HRF, TF, HMF⟩
        · have c := b6.cell 2
          simp only [List.getElem?_toArray, List.getElem?_cons_zero, List.getElem?_cons_succ] at c
          have q0 := HI.out.blk.cell 0
          have q1 := HI.out.blk.cell 1
          have q2 := HI.out.blk.cell 2
          have q3 := HI.out.blk.cell 3
          have q4 := HI.out.blk.cell 4
          have q5 := HI.out.blk.cell 5
          have qf := HI.out.blk.frozen
          have ql := HI.out.blk.lt
          simp only [List.getElem?_toArray, List.getElem?_cons_zero, List.getElem?_cons_succ] at q0 q1 q2 q3 q4 q5
          have HF := Lib.hid (RtIn.hosts HI.out (strs_row (ws := [⟨#[42, 46]⟩]) b2) (Nat.le_refl _) (by decide +kernel))
          have HS := Mod.setCell (S := fun i => i = xb) (p := ⟨xb, 1, none⟩) (Mod.refl _ w4) (.inl rfl) (.slice (some ⟨w5.heap.size + 1 + 1, 0, none⟩) 1 1)
          have HRF := Lib.hid (HRB.out.mod HS (by omega))
          have HMF := Lib.hid (HMX.out.mod HS (by have := HML.out; omega))
          have TF := Lib.hid ((T.set (p := ⟨xb, 1, none⟩) (by show w.heap.size ≤ xb; omega) (.slice (some ⟨w5.heap.size + 1 + 1, 0, none⟩) 1 1)).more (show _ ≤ k + 40 by omega))
          clear HS HI HRB HMX T b0 b1 b2 b3 b4 b5 b6
          go_wp2_with fail
          go_meet
          case rel => exact ⟨_, _, HF, HRF, TF, HMF⟩
        · have c := b6.cell 3
          simp only [List.getElem?_toArray, List.getElem?_cons_zero, List.getElem?_cons_succ] at c
          have q0 := HI.out.blk.cell 0
          have q1 := HI.out.blk.cell 1
          have q2 := HI.out.blk.cell 2
          have q3 := HI.out.blk.cell 3
          have q4 := HI.out.blk.cell 4
          have q5 := HI.out.blk.cell 5
          have qf := HI.out.blk.frozen
          have ql := HI.out.blk.lt
          simp only [List.getElem?_toArray, List.getElem?_cons_zero, List.getElem?_cons_succ] at q0 q1 q2 q3 q4 q5
          have HF := Lib.hid (RtIn.hosts HI.out (strs_row (ws := [⟨#[42, 46, 42, 46, 98]⟩]) b3) (Nat.le_refl _) (by decide +kernel))
          have HS := Mod.setCell (S := fun i => i = xb) (p := ⟨xb, 1, none⟩) (Mod.refl _ w4) (.inl rfl) (.slice (some ⟨w5.heap.size + 1 + 1 + 1, 0, none⟩) 1 1)
          have HRF := Lib.hid (HRB.out.mod HS (by omega))
          have HMF := Lib.hid (HMX.out.mod HS (by have := HML.out; omega))
          have TF := Lib.hid ((T.set (p := ⟨xb, 1, none⟩) (by show w.heap.size ≤ xb; omega) (.slice (some ⟨w5.heap.size + 1 + 1 + 1, 0, none⟩) 1 1)).more (show _ ≤ k + 40 by omega))
          clear HS HI HRB HMX T b0 b1 b2 b3 b4 b5 b6
          go_wp2_with fail
          go_meet
          case rel => exact ⟨_, _, HF, HRF, TF, HMF⟩
        · have c := b6.cell 4
          simp only [List.getElem?_toArray, List.getElem?_cons_zero, List.getElem?_cons_succ] at c
          have q0 := HI.out.blk.cell 0
          have q1 := HI.out.blk.cell 1
          have q2 := HI.out.blk.cell 2
          have q3 := HI.out.blk.cell 3
          have q4 := HI.out.blk.cell 4
          have q5 := HI.out.blk.cell 5
          have qf := HI.out.blk.frozen
          have ql := HI.out.blk.lt
          simp only [List.getElem?_toArray, List.getElem?_cons_zero, List.getElem?_cons_succ] at q0 q1 q2 q3 q4 q5
          have HF := Lib.hid (RtIn.hosts HI.out (strs_row (ws := [⟨#[97, 46, 98]⟩, ⟨#[97, 46, 98]⟩]) b4) (Nat.le_refl _) (by decide +kernel))
          have HS := Mod.setCell (S := fun i => i = xb) (p := ⟨xb, 1, none⟩) (Mod.refl _ w4) (.inl rfl) (.slice (some ⟨w5.heap.size + 1 + 1 + 1 + 1, 0, none⟩) 2 2)
          have HRF := Lib.hid (HRB.out.mod HS (by omega))
          have HMF := Lib.hid (HMX.out.mod HS (by have := HML.out; omega))
          have TF := Lib.hid ((T.set (p := ⟨xb, 1, none⟩) (by show w.heap.size ≤ xb; omega) (.slice (some ⟨w5.heap.size + 1 + 1 + 1 + 1, 0, none⟩) 2 2)).more (show _ ≤ k + 40 by omega))
          clear HS HI HRB HMX T b0 b1 b2 b3 b4 b5 b6
          go_wp2_with fail
          go_meet
          case rel => exact ⟨_, _, HF, HRF, TF, HMF⟩
        · have c := b6.cell 5
          simp only [List.getElem?_toArray, List.getElem?_cons_zero, List.getElem?_cons_succ] at c
          have q0 := HI.out.blk.cell 0
          have q1 := HI.out.blk.cell 1
          have q2 := HI.out.blk.cell 2
          have q3 := HI.out.blk.cell 3
          have q4 := HI.out.blk.cell 4
          have q5 := HI.out.blk.cell 5
          have qf := HI.out.blk.frozen
          have ql := HI.out.blk.lt
          simp only [List.getElem?_toArray, List.getElem?_cons_zero, List.getElem?_cons_succ] at q0 q1 q2 q3 q4 q5
          have HF := Lib.hid (RtIn.hosts HI.out (strs_row (ws := [⟨#[]⟩]) b5) (Nat.le_refl _) (by decide +kernel))
          have HS := Mod.setCell (S := fun i => i = xb) (p := ⟨xb, 1, none⟩) (Mod.refl _ w4) (.inl rfl) (.slice (some ⟨w5.heap.size + 1 + 1 + 1 + 1 + 1, 0, none⟩) 1 1)
          have HRF := Lib.hid (HRB.out.mod HS (by omega))
          have HMF := Lib.hid (HMX.out.mod HS (by have := HML.out; omega))
          have TF := Lib.hid ((T.set (p := ⟨xb, 1, none⟩) (by show w.heap.size ≤ xb; omega) (.slice (some ⟨w5.heap.size + 1 + 1 + 1 + 1 + 1, 0, none⟩) 1 1)).more (show _ ≤ k + 40 by omega))
          clear HS HI HRB HMX T b0 b1 b2 b3 b4 b5 b6
          go_wp2_with fail
          go_meet
          case rel => exact ⟨_, _, HF, HRF, TF, HMF⟩
      · go_wp2_with fail
        refine (template_any b _ _ T.inv (by omega)).mono ?_
        rintro e w6 ⟨U, rfl, hu, h5⟩
        have HUZ : Hid (U.size ≤ 300) := Lib.hid (by omega)
        clear hu
        have HI5 := Lib.hid (HI.out.stream T.inv h5)
        have HRB5 := Lib.hid (HRB.out.mod h5.only (by omega))
        have HMX5 := Lib.hid (HMX.out.stream h5)
        have T5 := T.trans h5
        clear h5 HI HRB HMX T
        have HI := HI5
        have HRB := HRB5
        have HMX := HMX5
        have T := T5
        clear HI5 HRB5 HMX5 T5
        rename World => w4
        have HVZ := HUZ
        have q0 := HI.out.blk.cell 0
        have q1 := HI.out.blk.cell 1
        have q2 := HI.out.blk.cell 2
        have q3 := HI.out.blk.cell 3
        have q4 := HI.out.blk.cell 4
        have q5 := HI.out.blk.cell 5
        have qf := HI.out.blk.frozen
        have ql := HI.out.blk.lt
        simp only [List.getElem?_toArray, List.getElem?_cons_zero, List.getElem?_cons_succ] at q0 q1 q2 q3 q4 q5
        have HF := Lib.hid (RtIn.path HI.out HVZ.out)
        have HS := Mod.setCell (S := fun i => i = xb) (p := ⟨xb, 2, none⟩) (Mod.refl _ w4) (.inl rfl) (.string U)
        have HRF := Lib.hid (HRB.out.mod HS (by omega))
        have HMF := Lib.hid (HMX.out.mod HS (by have := HML.out; omega))
        have TF := Lib.hid ((T.set (p := ⟨xb, 2, none⟩) (by show w.heap.size ≤ xb; omega) (.string U)).more (show _ ≤ k + 40 by omega))
        clear HS HI HRB HMX T
        go_wp2_with fail
        go_meet
        case rel => exact ⟨_, _, HF, HRF, TF, HMF⟩
      · have L := lit5 w5 9 41 (#[.string ⟨#[103, 101, 116]⟩]) (#[.string ⟨#[]⟩]) (#[.string ⟨#[71, 69, 84]⟩, .string ⟨#[71, 69, 84]⟩]) (#[.string ⟨#[71, 32, 84]⟩]) (#[.slice (some ⟨w5.heap.size, 0, none⟩) 1 1, .slice (some ⟨w5.heap.size + 1, 0, none⟩) 1 1, .slice (some ⟨w5.heap.size + 1 + 1, 0, none⟩) 2 2, .slice (some ⟨w5.heap.size + 1 + 1 + 1, 0, none⟩) 1 1])
        go_wp2_with fail
        refine (next_any b _ 4 _ (T.new L.new).inv (by omega) (by omega) (by omega)).mono ?_
        rintro e w4 ⟨m, rfl, m0, m1, h4⟩
        have hwb : b < w5.heap.size := by have := T.only.size; omega
        have b0 := L.b0.mod h4.only (by omega)
        have b1 := L.b1.mod h4.only (by omega)
        have b2 := L.b2.mod h4.only (by omega)
        have b3 := L.b3.mod h4.only (by omega)
        have b4 := L.b4.mod h4.only (by omega)
        have HI4 := Lib.hid ((HI.out.new L.new).stream (T.new L.new).inv h4)
        have HRB4 := Lib.hid ((HRB.out.mod L.new (fun e => e)).mod h4.only (by omega))
        have HMX4 := Lib.hid ((HMX.out.mod L.new (fun e => e)).stream h4)
        have T4 := (T.new L.new).trans h4
        have hob := b4.lt
        clear HI HRB HMX T L h4
        have HI := HI4
        have HRB := HRB4
        have HMX := HMX4
        have T := T4
        clear HI4 HRB4 HMX4 T4
        obtain rfl | rfl | rfl | rfl : m = 0 ∨ m = 1 ∨ m = 2 ∨ m = 3 := by omega
        · have c := b4.cell 0
          simp only [List.getElem?_toArray, List.getElem?_cons_zero, List.getElem?_cons_succ] at c
          have q0 := HI.out.blk.cell 0
          have q1 := HI.out.blk.cell 1
          have q2 := HI.out.blk.cell 2
          have q3 := HI.out.blk.cell 3
          have q4 := HI.out.blk.cell 4
          have q5 := HI.out.blk.cell 5
          have qf := HI.out.blk.frozen
          have ql := HI.out.blk.lt
          simp only [List.getElem?_toArray, List.getElem?_cons_zero, List.getElem?_cons_succ] at q0 q1 q2 q3 q4 q5
          have HF := Lib.hid (RtIn.methods HI.out (strs_row (ws := [⟨#[103, 101, 116]⟩]) b0) (Nat.le_refl _) (by decide +kernel))
          have HS := Mod.setCell (S := fun i => i = xb) (p := ⟨xb, 3, none⟩) (Mod.refl _ w4) (.inl rfl) (.slice (some ⟨w5.heap.size, 0, none⟩) 1 1)
          have HRF := Lib.hid (HRB.out.mod HS (by omega))
          have HMF := Lib.hid (HMX.out.mod HS (by have := HML.out; omega))
          have TF := Lib.hid ((T.set (p := ⟨xb, 3, none⟩) (by show w.heap.size ≤ xb; omega) (.slice (some ⟨w5.heap.size, 0, none⟩) 1 1)).more (show _ ≤ k + 40 by omega))
          clear HS HI HRB HMX T b0 b1 b2 b3 b4
          go_wp2_with fail
          go_meet
          case rel => exact ⟨_, _, HF, HRF, TF, HMF⟩
        · have c := b4.cell 1
          simp only [List.getElem?_toArray, List.getElem?_cons_zero, List.getElem?_cons_succ] at c
          have q0 := HI.out.blk.cell 0
          have q1 := HI.out.blk.cell 1
          have q2 := HI.out.blk.cell 2
          have q3 := HI.out.blk.cell 3
          have q4 := HI.out.blk.cell 4
          have q5 := HI.out.blk.cell 5
          have qf := HI.out.blk.frozen
          have ql := HI.out.blk.lt
          simp only [List.getElem?_toArray, List.getElem?_cons_zero, List.getElem?_cons_succ] at q0 q1 q2 q3 q4 q5
          have HF := Lib.hid (RtIn.methods HI.out (strs_row (ws := [⟨#[]⟩]) b1) (Nat.le_refl _) (by decide +kernel))
          have HS := Mod.setCell (S := fun i => i = xb) (p := ⟨xb, 3, none⟩) (Mod.refl _ w4) (.inl rfl) (.slice (some ⟨w5.heap.size + 1, 0, none⟩) 1 1)
          have HRF := Lib.hid (HRB.out.mod HS (by omega))
          have HMF := Lib.hid (HMX.out.mod HS (by have := HML.out; omega))
          have TF := Lib.hid ((T.set (p := ⟨xb, 3, none⟩) (by show w.heap.size ≤ xb; omega) (.slice (some ⟨w5.heap.size + 1, 0, none⟩) 1 1)).more (show _ ≤ k + 40 by omega))
          clear HS HI HRB HMX T b0 b1 b2 b3 b4
          go_wp2_with fail
          go_meet
          case rel => exact ⟨_, _, HF, HRF, TF, HMF⟩
        · have c := b4.cell 2
          simp only [List.getElem?_toArray, List.getElem?_cons_zero, List.getElem?_cons_succ] at c
          have q0 := HI.out.blk.cell 0
          have q1 := HI.out.blk.cell 1
          have q2 := HI.out.blk.cell 2
          have q3 := HI.out.blk.cell 3
          have q4 := HI.out.blk.cell 4
          have q5 := HI.out.blk.cell 5
          have qf := HI.out.blk.frozen
          have ql := HI.out.blk.lt
          simp only [List.getElem?_toArray, List.getElem?_cons_zero, List.getElem?_cons_succ] at q0 q1 q2 q3 q4 q5
          have HF := Lib.hid (RtIn.methods HI.out (strs_row (ws := [⟨#[71, 69, 84]⟩, ⟨#[71, 69, 84]⟩]) b2) (Nat.le_refl _) (by decide +kernel))
          have HS := Mod.setCell (S := fun i => i = xb) (p := ⟨xb, 3, none⟩) (Mod.refl _ w4) (.inl rfl) (.slice (some ⟨w5.heap.size + 1 + 1, 0, none⟩) 2 2)
          have HRF := Lib.hid (HRB.out.mod HS (by omega))
          have HMF := Lib.hid (HMX.out.mod HS (by have := HML.out; omega))
          have TF := Lib.hid ((T.set (p := ⟨xb, 3, none⟩) (by show w.heap.size ≤ xb; omega) (.slice (some ⟨w5.heap.size + 1 + 1, 0, none⟩) 2 2)).more (show _ ≤ k + 40 by omega))
          clear HS HI HRB HMX T b0 b1 b2 b3 b4
          go_wp2_with fail
          go_meet
          case rel => exact ⟨_, _, HF, HRF, TF, HMF⟩
        · have c := b4.cell 3
          simp only [List.getElem?_toArray, List.getElem?_cons_zero, List.getElem?_cons_succ] at c
          have q0 := HI.out.blk.cell 0
          have q1 := HI.out.blk.cell 1
          have q2 := HI.out.blk.cell 2
          have q3 := HI.out.blk.cell 3
          have q4 := HI.out.blk.cell 4
          have q5 := HI.out.blk.cell 5
          have qf := HI.out.blk.frozen
          have ql := HI.out.blk.lt
          simp only [List.getElem?_toArray, List.getElem?_cons_zero, List.getElem?_cons_succ] at q0 q1 q2 q3 q4 q5
          have HF := Lib.hid (RtIn.methods HI.out (strs_row (ws := [⟨#[71, 32, 84]⟩]) b3) (Nat.le_refl _) (by decide +kernel))
          have HS := Mod.setCell (S := fun i => i = xb) (p := ⟨xb, 3, none⟩) (Mod.refl _ w4) (.inl rfl) (.slice (some ⟨w5.heap.size + 1 + 1 + 1, 0, none⟩) 1 1)
          have HRF := Lib.hid (HRB.out.mod HS (by omega))
          have HMF := Lib.hid (HMX.out.mod HS (by have := HML.out; omega))
          have TF := Lib.hid ((T.set (p := ⟨xb, 3, none⟩) (by show w.heap.size ≤ xb; omega) (.slice (some ⟨w5.heap.size + 1 + 1 + 1, 0, none⟩) 1 1)).more (show _ ≤ k + 40 by omega))
          clear HS HI HRB HMX T b0 b1 b2 b3 b4
          go_wp2_with fail
          go_meet
          case rel => exact ⟨_, _, HF, HRF, TF, HMF⟩
      · have L := lit5 w5 55 42 (#[.string ⟨#[88]⟩, .string ⟨#[]⟩]) (#[.string ⟨#[]⟩, .string ⟨#[]⟩]) (#[.string ⟨#[120]⟩, .string ⟨#[32]⟩]) (#[.string ⟨#[120]⟩, .string ⟨#[49]⟩, .string ⟨#[120]⟩, .string ⟨#[49]⟩]) (#[.slice (some ⟨w5.heap.size, 0, none⟩) 1 1, .slice (some ⟨w5.heap.size + 1, 0, none⟩) 1 1, .slice (some ⟨w5.heap.size + 1 + 1, 0, none⟩) 1 1, .slice (some ⟨w5.heap.size + 1 + 1 + 1, 0, none⟩) 2 2])
        go_wp2_with fail
        refine (next_any b _ 4 _ (T.new L.new).inv (by omega) (by omega) (by omega)).mono ?_
        rintro e w4 ⟨m, rfl, m0, m1, h4⟩
        have hwb : b < w5.heap.size := by have := T.only.size; omega
        have b0 := L.b0.mod h4.only (by omega)
        have b1 := L.b1.mod h4.only (by omega)
        have b2 := L.b2.mod h4.only (by omega)
        have b3 := L.b3.mod h4.only (by omega)
        have b4 := L.b4.mod h4.only (by omega)
        have HI4 := Lib.hid ((HI.out.new L.new).stream (T.new L.new).inv h4)
        have HRB4 := Lib.hid ((HRB.out.mod L.new (fun e => e)).mod h4.only (by omega))
        have HMX4 := Lib.hid ((HMX.out.mod L.new (fun e => e)).stream h4)
        have T4 := (T.new L.new).trans h4
        have hob := b4.lt
        clear HI HRB HMX T L h4
        have HI := HI4
        have HRB := HRB4
        have HMX := HMX4
        have T := T4
        clear HI4 HRB4 HMX4 T4
        obtain rfl | rfl | rfl | rfl : m = 0 ∨ m = 1 ∨ m = 2 ∨ m = 3 := by omega
        · have c := b4.cell 0
          simp only [List.getElem?_toArray, List.getElem?_cons_zero, List.getElem?_cons_succ] at c
          have q0 := HI.out.blk.cell 0
          have q1 := HI.out.blk.cell 1
          have q2 := HI.out.blk.cell 2
          have q3 := HI.out.blk.cell 3
          have q4 := HI.out.blk.cell 4
          have q5 := HI.out.blk.cell 5
          have qf := HI.out.blk.frozen
          have ql := HI.out.blk.lt
          simp only [List.getElem?_toArray, List.getElem?_cons_zero, List.getElem?_cons_succ] at q0 q1 q2 q3 q4 q5
          have HF := Lib.hid (RtIn.needs HI.out (pairs_row (ps := [(⟨#[88]⟩, ⟨#[]⟩)]) b0) (Nat.le_refl _) (by decide +kernel))
          have HS := Mod.setCell (S := fun i => i = xb) (p := ⟨xb, 4, none⟩) (Mod.refl _ w4) (.inl rfl) (.slice (some ⟨w5.heap.size, 0, none⟩) 1 1)
          have HRF := Lib.hid (HRB.out.mod HS (by omega))
          have HMF := Lib.hid (HMX.out.mod HS (by have := HML.out; omega))
          have TF := Lib.hid ((T.set (p := ⟨xb, 4, none⟩) (by show w.heap.size ≤ xb; omega) (.slice (some ⟨w5.heap.size, 0, none⟩) 1 1)).more (show _ ≤ k + 40 by omega))
          clear HS HI HRB HMX T b0 b1 b2 b3 b4
          go_wp2_with fail
          go_meet
          case rel => exact ⟨_, _, HF, HRF, TF, HMF⟩
        · have c := b4.cell 1
          simp only [List.getElem?_toArray, List.getElem?_cons_zero, List.getElem?_cons_succ] at c
          have q0 := HI.out.blk.cell 0
          have q1 := HI.out.blk.cell 1
          have q2 := HI.out.blk.cell 2
          have q3 := HI.out.blk.cell 3
          have q4 := HI.out.blk.cell 4
          have q5 := HI.out.blk.cell 5
          have qf := HI.out.blk.frozen
          have ql := HI.out.blk.lt
          simp only [List.getElem?_toArray, List.getElem?_cons_zero, List.getElem?_cons_succ] at q0 q1 q2 q3 q4 q5
          have HF := Lib.hid (RtIn.needs HI.out (pairs_row (ps := [(⟨#[]⟩, ⟨#[]⟩)]) b1) (Nat.le_refl _) (by decide +kernel))
          have HS := Mod.setCell (S := fun i => i = xb) (p := ⟨xb, 4, none⟩) (Mod.refl _ w4) (.inl rfl) (.slice (some ⟨w5.heap.size + 1, 0, none⟩) 1 1)
          have HRF := Lib.hid (HRB.out.mod HS (by omega))
          have HMF := Lib.hid (HMX.out.mod HS (by have := HML.out; omega))
          have TF := Lib.hid ((T.set (p := ⟨xb, 4, none⟩) (by show w.heap.size ≤ xb; omega) (.slice (some ⟨w5.heap.size + 1, 0, none⟩) 1 1)).more (show _ ≤ k + 40 by omega))
          clear HS HI HRB HMX T b0 b1 b2 b3 b4
          go_wp2_with fail
          go_meet
          case rel => exact ⟨_, _, HF, HRF, TF, HMF⟩
        · have c := b4.cell 2
          simp only [List.getElem?_toArray, List.getElem?_cons_zero, List.getElem?_cons_succ] at c
          have q0 := HI.out.blk.cell 0
          have q1 := HI.out.blk.cell 1
          have q2 := HI.out.blk.cell 2
          have q3 := HI.out.blk.cell 3
          have q4 := HI.out.blk.cell 4
          have q5 := HI.out.blk.cell 5
          have qf := HI.out.blk.frozen
          have ql := HI.out.blk.lt
          simp only [List.getElem?_toArray, List.getElem?_cons_zero, List.getElem?_cons_succ] at q0 q1 q2 q3 q4 q5
          have HF := Lib.hid (RtIn.needs HI.out (pairs_row (ps := [(⟨#[120]⟩, ⟨#[32]⟩)]) b2) (Nat.le_refl _) (by decide +kernel))
          have HS := Mod.setCell (S := fun i => i = xb) (p := ⟨xb, 4, none⟩) (Mod.refl _ w4) (.inl rfl) (.slice (some ⟨w5.heap.size + 1 + 1, 0, none⟩) 1 1)
          have HRF := Lib.hid (HRB.out.mod HS (by omega))
          have HMF := Lib.hid (HMX.out.mod HS (by have := HML.out; omega))
          have TF := Lib.hid ((T.set (p := ⟨xb, 4, none⟩) (by show w.heap.size ≤ xb; omega) (.slice (some ⟨w5.heap.size + 1 + 1, 0, none⟩) 1 1)).more (show _ ≤ k + 40 by omega))
          clear HS HI HRB HMX T b0 b1 b2 b3 b4
          go_wp2_with fail
          go_meet
          case rel => exact ⟨_, _, HF, HRF, TF, HMF⟩
        · have c := b4.cell 3
          simp only [List.getElem?_toArray, List.getElem?_cons_zero, List.getElem?_cons_succ] at c
          have q0 := HI.out.blk.cell 0
          have q1 := HI.out.blk.cell 1
          have q2 := HI.out.blk.cell 2
          have q3 := HI.out.blk.cell 3
          have q4 := HI.out.blk.cell 4
          have q5 := HI.out.blk.cell 5
          have qf := HI.out.blk.frozen
          have ql := HI.out.blk.lt
          simp only [List.getElem?_toArray, List.getElem?_cons_zero, List.getElem?_cons_succ] at q0 q1 q2 q3 q4 q5
          have HF := Lib.hid (RtIn.needs HI.out (pairs_row (ps := [(⟨#[120]⟩, ⟨#[49]⟩), (⟨#[120]⟩, ⟨#[49]⟩)]) b3) (Nat.le_refl _) (by decide +kernel))
          have HS := Mod.setCell (S := fun i => i = xb) (p := ⟨xb, 4, none⟩) (Mod.refl _ w4) (.inl rfl) (.slice (some ⟨w5.heap.size + 1 + 1 + 1, 0, none⟩) 2 2)
          have HRF := Lib.hid (HRB.out.mod HS (by omega))
          have HMF := Lib.hid (HMX.out.mod HS (by have := HML.out; omega))
          have TF := Lib.hid ((T.set (p := ⟨xb, 4, none⟩) (by show w.heap.size ≤ xb; omega) (.slice (some ⟨w5.heap.size + 1 + 1 + 1, 0, none⟩) 2 2)).more (show _ ≤ k + 40 by omega))
          clear HS HI HRB HMX T b0 b1 b2 b3 b4
          go_wp2_with fail
          go_meet
          case rel => exact ⟨_, _, HF, HRF, TF, HMF⟩
      · go_wp2_with fail
        refine (template_any b _ _ T.inv (by omega)).mono ?_
        rintro e w6 ⟨U, rfl, hu, h5⟩
        have HUZ : Hid (U.size ≤ 300) := Lib.hid (by omega)
        clear hu
        have HI5 := Lib.hid (HI.out.stream T.inv h5)
        have HRB5 := Lib.hid (HRB.out.mod h5.only (by omega))
        have HMX5 := Lib.hid (HMX.out.stream h5)
        have T5 := T.trans h5
        clear h5 HI HRB HMX T
        have HI := HI5
        have HRB := HRB5
        have HMX := HMX5
        have T := T5
        clear HI5 HRB5 HMX5 T5
        go_wp2_with fail
        refine (some_any [⟨#[47, 123, 122, 122, 125]⟩, ⟨#[47, 123, 105, 100, 42, 125]⟩, ⟨#[47, 123, 114, 101, 115, 116, 125]⟩, ⟨#[120]⟩, U] b _ w6.heap.size 5 _ (T.alloc _).inv (by omega) (Blk.new _ _ _) rfl (by omega) (by omega)).mono ?_
        rintro e w4 ⟨v, rfl, hv, h4⟩
        have HVZ : Hid (v.size ≤ 300) := Lib.hid (by
          simp only [List.mem_cons, List.not_mem_nil, or_false] at hv
          rcases hv with rfl | rfl | rfl | rfl | rfl
          all_goals first | decide | exact HUZ.out)
        have T4 := (T.alloc (.cells #[.string ⟨#[47, 123, 122, 122, 125]⟩, .string ⟨#[47, 123, 105, 100, 42, 125]⟩, .string ⟨#[47, 123, 114, 101, 115, 116, 125]⟩, .string ⟨#[120]⟩, .string U] 9)).trans h4
        have HI4 := Lib.hid ((HI.out.new ((Mod.refl _ _).alloc (.cells #[.string ⟨#[47, 123, 122, 122, 125]⟩, .string ⟨#[47, 123, 105, 100, 42, 125]⟩, .string ⟨#[47, 123, 114, 101, 115, 116, 125]⟩, .string ⟨#[120]⟩, .string U] 9))).stream (T.alloc _).inv h4)
        have HRB4 := Lib.hid ((HRB.out.keepA (.cells #[.string ⟨#[47, 123, 122, 122, 125]⟩, .string ⟨#[47, 123, 105, 100, 42, 125]⟩, .string ⟨#[47, 123, 114, 101, 115, 116, 125]⟩, .string ⟨#[120]⟩, .string U] 9)).mod h4.only (by omega))
        have HMX4 := Lib.hid ((HMX.out.mod ((Mod.refl (fun _ => False) _).alloc (.cells #[.string ⟨#[47, 123, 122, 122, 125]⟩, .string ⟨#[47, 123, 105, 100, 42, 125]⟩, .string ⟨#[47, 123, 114, 101, 115, 116, 125]⟩, .string ⟨#[120]⟩, .string U] 9)) (fun e => e)).stream h4)
        clear HI HRB HMX T h4 hv
        have HI := HI4
        have HRB := HRB4
        have HMX := HMX4
        have T := T4
        clear HI4 HRB4 HMX4 T4
        have q0 := HI.out.blk.cell 0
        have q1 := HI.out.blk.cell 1
        have q2 := HI.out.blk.cell 2
        have q3 := HI.out.blk.cell 3
        have q4 := HI.out.blk.cell 4
        have q5 := HI.out.blk.cell 5
        have qf := HI.out.blk.frozen
        have ql := HI.out.blk.lt
        simp only [List.getElem?_toArray, List.getElem?_cons_zero, List.getElem?_cons_succ] at q0 q1 q2 q3 q4 q5
        have HF := Lib.hid (RtIn.dest HI.out HVZ.out)
        have HS := Mod.setCell (S := fun i => i = xb) (p := ⟨xb, 5, none⟩) (Mod.refl _ w4) (.inl rfl) (.string v)
        have HRF := Lib.hid (HRB.out.mod HS (by omega))
        have HMF := Lib.hid (HMX.out.mod HS (by have := HML.out; omega))
        have TF := Lib.hid ((T.set (p := ⟨xb, 5, none⟩) (by show w.heap.size ≤ xb; omega) (.string v)).more (show _ ≤ k + 40 by omega))
        clear HS HI HRB HMX T
        go_wp2_with fail
        go_meet
        case rel => exact ⟨_, _, HF, HRF, TF, HMF⟩
  case rest =>
    rename World => w2
    obtain ⟨x, r, HI0, HRB0, T0, HMX0⟩ := hcut
    have T := T0.out
    clear T0
    have hcP := HI0.out.blk.cell
    have ql := HI0.out.blk.lt
    have hcR := HRB0.out.cell
    have hfR := HRB0.out.frozen
    have rlt := HRB0.out.lt
    have HAT := Lib.hid HI0.out.at'
    have HMN := Lib.hid HI0.out.mini
    have HTB := Lib.hid HRB0.out.tb
    have hmF := fun (v0 v1 v2 v3 v4 v5 : Value) => (Mod.setCell (S := fun i => i = rb) (p := ⟨rb, 5, none⟩) (Mod.setCell (S := fun i => i = rb) (p := ⟨rb, 4, none⟩) (Mod.setCell (S := fun i => i = rb) (p := ⟨rb, 3, none⟩) (Mod.setCell (S := fun i => i = rb) (p := ⟨rb, 2, none⟩) (Mod.setCell (S := fun i => i = rb) (p := ⟨rb, 1, none⟩) (Mod.setCell (S := fun i => i = rb) (p := ⟨rb, 0, none⟩) (Mod.refl _ w2) (.inl rfl) v0) (.inl rfl) v1) (.inl rfl) v2) (.inl rfl) v3) (.inl rfl) v4) (.inl rfl) v5)
    have HMF := Lib.hid hmF
    have HFIN : Hid (∀ W', Mod (fun i => i = rb) w2 W' → RtAt W' x r ∧ SStep b w W' (k + 60)) := Lib.hid (fun W' hm => ⟨⟨HAT.out.key, HAT.out.path, HAT.out.dest, HAT.out.hosts.mod hm (fun g hg e => hg.ne HTB.out (by decide) e), HAT.out.methods.mod hm (fun g hg e => hg.ne HTB.out (by decide) e), HAT.out.needs.mod hm (fun g hg e => hg.ne HTB.out (by decide) e), HAT.out.hcap, HAT.out.mcap, HAT.out.ncap⟩, ⟨T.lt, T.only.step hm (fun i hi e => by omega), (T.inv.mod hm (fun i hi e => by omega)).more (by omega)⟩⟩)
    clear hmF HI0 HRB0 HMX0
    obtain ⟨x0, x1, x2, x3, x4, x5, x6, x7, x8, x9, xa, xc⟩ := x
    go_wp2_with fail
    refine bodyPost_ret (v := RA.val ⟨x0, x1, x2, x3, x4, x5, x6, x7, x8, x9, xa, xc⟩) (by simp [results, Tryz.results16, go_sem, hcP, hcR, hfR, ql, rlt, RA.val]) rfl ?_
    exact ⟨_, r, rfl, (HFIN.out _ (HMF.out _ _ _ _ _ _)).1, HMN.out, (HFIN.out _ (HMF.out _ _ _ _ _ _)).2⟩
end Go.Proofs.YtnbcfpjalgfikaaGreatDoor
