/- Strings that are nearly records: Stream.Changed and Stream.RecordString (written by mkrecstr.py out of XLimStr). Conditions: the stream's own; strconv's table. -/
import Derived.Test.YtccffkdaalnfoaaGreatDoorRecMake
import Derived.BigQuiet
namespace Go.Proofs.YtccffkdaalnfoaaGreatDoor
open Go.RowKit
set_option linter.unusedVariables false
set_option linter.unusedSimpArgs false

abbrev with7 : ByteArray := ⟨#[32, 10, 45, 48, 49, 57, 97]⟩
theorem encode_size (n : Int) : (Utf8.encode n).size ≤ 4 := by
  unfold Utf8.encode
  simp only
  repeat' split
  all_goals (first | decide | (show _ ≤ 4; simp [ByteArray.size]))
theorem encode_wrap (c : UInt8) : IntKind.i32.wrap (c.toNat : Int) = c.toNat := by
  have := c.toNat_lt
  simp [IntKind.wrap, IntKind.signed, IntKind.bits]
  omega
set_option maxRecDepth 100000 in
set_option maxHeartbeats 2000000 in
theorem changed_any (b k : Nat) (t : ByteArray) (w : World) (hs : SInv b w k) (hk : k < 4611686018427000000) (ht : t.size ≤ 100000) :
    Calls Tryz.prog 28 #[.pointer (some ⟨b, 0, none⟩), .string t, .string with7] w (RStr fun m w' => m.size ≤ t.size + 8 ∧ SStep b w w' (k + 3)) := by
  have hb := hs.lt
  by_cases he : t = ⟨#[]⟩
  · have he' : (t.toList == []) = true := by rw [he, ByteArray.toList_eq]; rfl
    clear he
    go_enter Tryz.func28, Tryz.ntmps28
    go_wp2_with fail
    go_ret
    exact ⟨with7, rfl, by have : with7.size = 7 := rfl; omega, (SStep.refl hs).more (by omega)⟩
  · have he' : (t.toList == []) = false := by
      rw [ByteArray.toList_eq]
      simp only [beq_eq_false_iff_ne, ne_eq]
      intro h
      exact he (ByteArray.ext (Array.toList_inj.mp h))
    have hpos : 1 ≤ t.size := by
      rcases Nat.eq_zero_or_pos t.size with h | h
      · exact absurd (ByteArray.ext (Array.eq_empty_of_size_eq_zero h)) he
      · exact h
    clear he
    go_enter Tryz.func28, Tryz.ntmps28
    go_wp2_with fail
    refine (next_any b k t.size w hs (by omega) (by omega) (by omega)).mono ?_
    rintro e w1 ⟨i, rfl, hi0, hi1, h1⟩
    go_wp2_with fail
    refine (next_any b _ 7 w1 h1.inv (by omega) (by omega) (by omega)).mono ?_
    rintro e w2 ⟨j, rfl, hj0, hj1, h2⟩
    obtain ⟨i, rfl⟩ := Int.eq_ofNat_of_zero_le hi0
    obtain ⟨j, rfl⟩ := Int.eq_ofNat_of_zero_le hj0
    have hj2 : j < with7.size := by have : with7.size = 7 := rfl; omega
    go_wp2_with fail
    refine (next_any b _ 3 w2 h2.inv (by omega) (by omega) (by omega)).mono ?_
    rintro e w3 ⟨m, rfl, hm0, hm1, h3⟩
    have h13 := (h1.trans h2).trans h3
    have hew := encode_wrap with7[j]
    have hes := encode_size (with7[j].toNat : Int)
    generalize with7[j]'hj2 = c at hew hes ⊢
    have hi2 : i < t.size := by omega
    have e1 : (t.extract 0 i).size = i := by simp only [ByteArray.size_extract]; omega
    have e2 : (t.extract (i + 1) t.size).size = t.size - (i + 1) := by simp only [ByteArray.size_extract]; omega
    have e3 : (t.extract i t.size).size = t.size - i := by simp only [ByteArray.size_extract]; omega
    have E1 := Lib.hid e1
    have E2 := Lib.hid e2
    have E3 := Lib.hid e3
    clear e1 e2 e3 h1 h2 h3
    obtain rfl | rfl | rfl : m = 0 ∨ m = 1 ∨ m = 2 := by omega
    · go_wp2_with fail
      go_quiet (fail)
      go_wp2_with fail
      go_ret
      refine ⟨_, rfl, ?_, (h13.drewN _).more (by omega)⟩
      simp only [ByteArray.size_append, E1.out, E2.out]
      omega
    · go_wp2_with fail
      go_quiet (fail)
      go_wp2_with fail
      go_ret
      refine ⟨_, rfl, ?_, (h13.drewN _).more (by omega)⟩
      simp only [ByteArray.size_append, E1.out, E3.out]
      omega
    · go_wp2_with fail
      go_quiet (fail)
      go_wp2_with fail
      go_ret
      refine ⟨_, rfl, ?_, (h13.drewN _).more (by omega)⟩
      simp only [ByteArray.size_append, E1.out, E2.out]
      omega

set_option maxRecDepth 100000 in
set_option maxHeartbeats 4000000 in
theorem recordString_any (b k : Nat) (w w0 : World) (hs : SInv b w k) (hk : k < 4611686018425000000) (h0 : Pow10 w0) (hb0 : w0.heap.size ≤ b) (hT : Pow10 w) :
    Calls Tryz.prog 9 #[.pointer (some ⟨b, 0, none⟩)] w (RStr fun m w' => m.size ≤ 9000 ∧ SStep b w w' (k + 60)) := by
  have hb := hs.lt
  go_enter Tryz.func9, Tryz.ntmps9
  go_wp2_with fail
  refine (range_any b k 0 3 w hs (by omega) (by omega) (by omega) (by omega)).mono ?_
  rintro e w1 ⟨many, rfl, y0, y1, h1⟩
  obtain ⟨many, rfl⟩ := Int.eq_ofNat_of_zero_le y0
  go_wp2_with fail
  refine (stream_recs b _ many w1 h1.inv (by omega) (by omega)).mono ?_
  rintro e w2 ⟨A, m, c, rs, rfl, hrr, hm, hmi, h2⟩
  have T2 := h1.trans h2
  have hT2 := h0.mod hT T2.only (fun g hg e => by omega)
  have hll := ref_recordLines rs A m c w2 hrr (by omega) (fun r hr => (hmi r hr).line) hT2
  have htl := recText_length (rs := rs) (fun r hr => (hmi r hr).line)
  have hrl := hrr.1
  have HTL : Hid ((⟨(recText rs).toArray⟩ : ByteArray).size ≤ 3600) := Lib.hid (by
    have : (⟨(recText rs).toArray⟩ : ByteArray).size = (recText rs).length := by simp [ByteArray.size]
    omega)
  have TX := T2.more (show k + 1 + 9 + 8 * many ≤ k + 40 by omega)
  clear htl hrl hmi hrr h1 h2 T2 hT2
  generalize (⟨(recText rs).toArray⟩ : ByteArray) = t at *
  go_wp2_with fail
  refine hll.mono ?_
  clear hll
  rintro e w3 ⟨rfl, m3⟩
  have HX := TX.new m3
  have hts := HTL.out
  clear TX m3 HTL
  go_wp2_with fail
  refine (pick_any [0, 0, 1, 2] b _ w3.heap.size 4 _ (HX.alloc _).inv (by omega) (Blk.new _ _ _) rfl (by omega) (by omega)).mono ?_
  rintro e w4 ⟨n, rfl, mn, h4⟩
  have hn : 0 ≤ n ∧ n ≤ 2 := by simp at mn; omega
  obtain ⟨n, rfl⟩ := Int.eq_ofNat_of_zero_le hn.1
  have T4 := (HX.alloc _).trans h4
  clear HX h4 mn
  go_wp2_with fail
  go_loopw [3, 12] (fun s i wr => ∃ (j : Nat) (t : ByteArray), j ≤ n ∧ i = .int .i64 j ∧ s = .string t ∧ t.size ≤ 3600 + 8 * j ∧ Hid (SStep b w wr (k + 41 + 3 * j))) (fun _ i _ => n - (intOf i).toNat)
  case atStart => exact ⟨0, t, Nat.zero_le _, rfl, rfl, by omega, Lib.hid (T4.more (by omega))⟩
  case round =>
    rename World => wr
    obtain ⟨j, t', hj, rfl, rfl, hsz, HST⟩ := hrel
    by_cases hlt : j < n
    · have hch := changed_any b _ t' wr HST.out.inv (by omega) (by omega)
      go_wp2_with fail
      refine hch.mono ?_
      clear hch
      rintro e w5 ⟨m, rfl, hm, h5⟩
      have HS5 := Lib.hid ((HST.out.trans h5).more (show k + 41 + 3 * j + 3 ≤ k + 41 + 3 * (j + 1) by omega))
      clear h5
      go_wp2_with fail
      exact ⟨⟨j + 1, m, by omega, by go_num, rfl, by omega, HS5⟩, by simp [intOf]; omega⟩
    · obtain rfl : j = n := by omega
      go_wp2_with fail
      go_ret
      exact ⟨t', rfl, by omega, HST.out.more (by omega)⟩

end Go.Proofs.YtccffkdaalnfoaaGreatDoor
