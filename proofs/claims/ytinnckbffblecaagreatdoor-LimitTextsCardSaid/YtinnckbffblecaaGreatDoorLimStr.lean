/- Strings that are nearly limits: Stream.Changed and Stream.LimitString. Conditions: the stream's own; strconv's table. -/
import Derived.Test.YtinnckbffblecaaGreatDoorText3
import Derived.BigQuiet
namespace Go.Proofs.YtinnckbffblecaaGreatDoor
open Go.RowKit
set_option linter.unusedVariables false
set_option linter.unusedSimpArgs false

abbrev with8 : ByteArray := ⟨#[32, 10, 48, 49, 57, 119, 97, 45]⟩
theorem encode_size (n : Int) : (Utf8.encode n).size ≤ 4 := by
  unfold Utf8.encode
  simp only
  repeat' split
  all_goals (first | decide | (show _ ≤ 4; simp [ByteArray.size]))
theorem encode_wrap (c : UInt8) : IntKind.i32.wrap (c.toNat : Int) = c.toNat := by
  have := c.toNat_lt
  simp [IntKind.wrap, IntKind.signed, IntKind.bits]
  omega
set_option maxRecDepth 100000 in
set_option maxHeartbeats 2000000 in
theorem changed_any (b k : Nat) (t : ByteArray) (w : World) (hs : SInv b w k) (hk : k < 4611686018427000000) (ht : t.size ≤ 100000) :
    Calls Tryz.prog 28 #[.pointer (some ⟨b, 0, none⟩), .string t, .string with8] w (RStr fun m w' => m.size ≤ t.size + 8 ∧ SStep b w w' (k + 3)) := by
  have hb := hs.lt
  by_cases he : t = ⟨#[]⟩
  · have he' : (t.toList == []) = true := by rw [he, ByteArray.toList_eq]; rfl
    clear he
    go_enter Tryz.func28, Tryz.ntmps28
    go_wp2_with fail
    go_ret
    exact ⟨with8, rfl, by have : with8.size = 8 := rfl; omega, (SStep.refl hs).more (by omega)⟩
  · have he' : (t.toList == []) = false := by
      rw [ByteArray.toList_eq]
      simp only [beq_eq_false_iff_ne, ne_eq]
      intro h
      exact he (ByteArray.ext (Array.toList_inj.mp h))
    have hpos : 1 ≤ t.size := by
      rcases Nat.eq_zero_or_pos t.size with h | h
      · exact absurd (ByteArray.ext (Array.eq_empty_of_size_eq_zero h)) he
      · exact h
    clear he
    go_enter Tryz.func28, Tryz.ntmps28
    go_wp2_with fail
    refine (next_any b k t.size w hs (by omega) (by omega) (by omega)).mono ?_
    rintro e w1 ⟨i, rfl, hi0, hi1, h1⟩
    go_wp2_with fail
    refine (next_any b _ 8 w1 h1.inv (by omega) (by omega) (by omega)).mono ?_
    rintro e w2 ⟨j, rfl, hj0, hj1, h2⟩
    obtain ⟨i, rfl⟩ := Int.eq_ofNat_of_zero_le hi0
    obtain ⟨j, rfl⟩ := Int.eq_ofNat_of_zero_le hj0
    have hj2 : j < with8.size := by have : with8.size = 8 := rfl; omega
    go_wp2_with fail
    refine (next_any b _ 3 w2 h2.inv (by omega) (by omega) (by omega)).mono ?_
    rintro e w3 ⟨m, rfl, hm0, hm1, h3⟩
    have h13 := (h1.trans h2).trans h3
    have hew := encode_wrap with8[j]
    have hes := encode_size (with8[j].toNat : Int)
    generalize with8[j]'hj2 = c at hew hes ⊢
    have hi2 : i < t.size := by omega
    have e1 : (t.extract 0 i).size = i := by simp only [ByteArray.size_extract]; omega
    have e2 : (t.extract (i + 1) t.size).size = t.size - (i + 1) := by simp only [ByteArray.size_extract]; omega
    have e3 : (t.extract i t.size).size = t.size - i := by simp only [ByteArray.size_extract]; omega
    have E1 := Lib.hid e1
    have E2 := Lib.hid e2
    have E3 := Lib.hid e3
    clear e1 e2 e3 h1 h2 h3
    obtain rfl | rfl | rfl : m = 0 ∨ m = 1 ∨ m = 2 := by omega
    · go_wp2_with fail
      go_quiet (fail)
      go_wp2_with fail
      go_ret
      refine ⟨_, rfl, ?_, (h13.drewN _).more (by omega)⟩
      simp only [ByteArray.size_append, E1.out, E2.out]
      omega
    · go_wp2_with fail
      go_quiet (fail)
      go_wp2_with fail
      go_ret
      refine ⟨_, rfl, ?_, (h13.drewN _).more (by omega)⟩
      simp only [ByteArray.size_append, E1.out, E3.out]
      omega
    · go_wp2_with fail
      go_quiet (fail)
      go_wp2_with fail
      go_ret
      refine ⟨_, rfl, ?_, (h13.drewN _).more (by omega)⟩
      simp only [ByteArray.size_append, E1.out, E2.out]
      omega

theorem Lim.Fine.i64 {l : Lim} (h : l.Fine) : I64 l.most ∧ I64 l.per ∧ I64 l.burst := by
  obtain ⟨_, h⟩ := h
  unfold Lim.Small at h
  unfold I64
  omega
theorem firstFault_each {f : Nat → Int} {n : Nat} (h : firstFault f n = 0) : ∀ k, k < n → f k = 0 := by
  induction n with
  | zero => intro k hk; omega
  | succ n ih =>
    intro k hk
    unfold firstFault at h
    split at h
    · rename_i h0
      by_cases e : k = n
      · subst e; exact h
      · exact ih h0 k (by omega)
    · rename_i h0; exact absurd h h0
theorem lims_kind {ls : List Lim} (h : limsFault ls = 0) : ∀ l ∈ ls, 1 ≤ l.kind ∧ l.kind ≤ 4 := by
  intro l hl
  obtain ⟨k, hk, rfl⟩ := List.getElem_of_mem hl
  unfold limsFault at h
  split at h
  · cases h
  · have h1 := firstFault_each h k hk
    unfold limAt at h1
    rw [List.getElem?_eq_getElem hk] at h1
    simp only at h1
    have h2 : limSelf ls[k] = 0 := by
      split at h1
      · cases h1
      · split at h1
        · cases h1
        · exact h1
    generalize ls[k] = l at h2
    unfold limSelf at h2
    split at h2
    · cases h2
    · rename_i k1
      split at h2
      · cases h2
      · rename_i k2
        simp only [Bool.not_eq_true', Bool.not_eq_false, Bool.and_eq_true, decide_eq_true_eq] at k1 k2
        omega
theorem lineB_size2 {l : Lim} (hk : l.key.size ≤ 2) (h1 : I64 l.most) (h2 : I64 l.per) (h3 : I64 l.burst) : (lineB l).size ≤ 80 := by
  have := itoaB_size h1
  have := itoaB_size h2
  have := itoaB_size h3
  have := kindWord_size l.kind
  unfold lineB
  simp only [ByteArray.size_append]
  have e1 : (sp : ByteArray).size = 1 := rfl
  have e2 : (nl : ByteArray).size = 1 := rfl
  omega
theorem textL_length2 {ls : List Lim} (h : ∀ l ∈ ls, l.Fine) : (textL ls).length ≤ 80 * ls.length := by
  unfold textL
  induction ls with
  | nil => simp
  | cons l ls ih =>
    have h1 := h l (by simp)
    have h2 := lineB_size2 h1.1 (Lim.Fine.i64 h1).1 (Lim.Fine.i64 h1).2.1 (Lim.Fine.i64 h1).2.2
    have h3 := ih (fun x hx => h x (by simp [hx]))
    simp only [List.flatMap_cons, List.length_append, List.length_cons]
    have : (lineB l).data.toList.length = (lineB l).size := rfl
    omega
theorem fine_lines {ls : List Lim} (h : ∀ l ∈ ls, l.Fine) (hf : limsFault ls = 0) : ∀ l ∈ ls, LineLim l := fun l hl => by
  have h1 := h l hl
  obtain ⟨a1, a2, a3⟩ := Lim.Fine.i64 h1
  exact ⟨by have := h1.1; omega, lims_kind hf l hl, a1, a2, a3⟩

set_option maxRecDepth 100000 in
set_option maxHeartbeats 2000000 in
theorem limitString_any (b k : Nat) (w w0 : World) (hs : SInv b w k) (hk : k < 4611686018426000000) (h0 : Pow10 w0) (hb0 : w0.heap.size ≤ b) (hT : Pow10 w) :
    Calls Tryz.prog 8 #[.pointer (some ⟨b, 0, none⟩)] w (RStr fun m w' => m.size ≤ 900 ∧ SStep b w w' (k + 60)) := by
  have hb := hs.lt
  go_enter Tryz.func8, Tryz.ntmps8
  go_wp2_with fail
  refine (stream_limits b k w hs (by omega)).mono ?_
  rintro e w1 ⟨Al, nl, cl, ls, rfl, hlr, hnl, hfi, h1⟩
  have hT1 := h0.mod hT h1.only (fun g hg e => by omega)
  have hlf := ref_limitsFault ls Al nl cl w1 hlr (by omega) (fun l hl => by have := (hfi l hl).1; unfold maxLen; omega)
  have HLR := Lib.hid hlr
  have HFI := Lib.hid hfi
  have hlen : ls.length = nl := hlr.1
  have HLEN := Lib.hid hlen
  have HT1 := Lib.hid hT1
  have HS1 := Lib.hid h1
  clear hlr hfi hlen hT1 h1
  go_upto_if 9 with (first | (go_at_call 6; refine hlf.mono ?_; clear hlf; rintro e w2 ⟨rfl, hm2⟩))
  have HS2 := Lib.hid (HS1.out.new hm2)
  have HLR2 := Lib.hid (HLR.out.new hm2)
  have HT2 := Lib.hid (HT1.out.new hm2)
  clear hm2
  go_cut [4] (fun s4 wx => ∃ t : ByteArray, s4 = .string t ∧ t.size ≤ 400 ∧ SStep b w wx (k + 30))
  case first =>
    by_cases hf : limsFault ls = 0
    · have hf' : (limsFault ls == 0) = true := by simpa using hf
      have hll := ref_limitLines ls Al nl cl w2 HLR2.out (by omega) (fine_lines HFI.out hf) HT2.out
      have htl := textL_length2 HFI.out
      have HTL : Hid ((⟨(textL ls).toArray⟩ : ByteArray).size ≤ 400) := Lib.hid (by
        have : (⟨(textL ls).toArray⟩ : ByteArray).size = (textL ls).length := by simp [ByteArray.size]
        have := HLEN.out
        omega)
      clear hf htl
      generalize (⟨(textL ls).toArray⟩ : ByteArray) = T at *
      go_wp2_with fail
      refine hll.mono ?_
      clear hll
      rintro e w3 ⟨rfl, hm3⟩
      go_wp2_with fail
      go_meet
      exact ⟨T, rfl, HTL.out, HS2.out.new hm3⟩
    · have hf' : (limsFault ls == 0) = false := by simpa using hf
      clear hf
      go_wp2_with fail
      go_meet
      exact ⟨_, rfl, by decide, HS2.out⟩
  case rest =>
    obtain ⟨t, rfl, hts, HX⟩ := hcut
    go_wp2_with fail
    refine (pick_any [0, 0, 1, 2] b _ wc.heap.size 4 _ (HX.alloc _).inv (by omega) (Blk.new _ _ _) rfl (by omega) (by omega)).mono ?_
    rintro e w4 ⟨n, rfl, mn, h4⟩
    have hn : 0 ≤ n ∧ n ≤ 2 := by simp at mn; omega
    obtain ⟨n, rfl⟩ := Int.eq_ofNat_of_zero_le hn.1
    have T4 := (HX.alloc _).trans h4
    clear HX h4 mn
    go_wp2_with fail
    go_loopw [4, 15] (fun s i wr => ∃ (j : Nat) (t : ByteArray), j ≤ n ∧ i = .int .i64 j ∧ s = .string t ∧ t.size ≤ 400 + 8 * j ∧ Hid (SStep b w wr (k + 31 + 3 * j))) (fun _ i _ => n - (intOf i).toNat)
    case atStart => exact ⟨0, t, Nat.zero_le _, rfl, rfl, by omega, Lib.hid (T4.more (by omega))⟩
    case round =>
      rename World => wr
      obtain ⟨j, t', hj, rfl, rfl, hsz, HST⟩ := hrel
      by_cases hlt : j < n
      · have hch := changed_any b _ t' wr HST.out.inv (by omega) (by omega)
        go_wp2_with fail
        refine hch.mono ?_
        clear hch
        rintro e w5 ⟨m, rfl, hm, h5⟩
        have HS5 := Lib.hid ((HST.out.trans h5).more (show k + 31 + 3 * j + 3 ≤ k + 31 + 3 * (j + 1) by omega))
        clear h5
        go_wp2_with fail
        exact ⟨⟨j + 1, m, by omega, by go_num, rfl, by omega, HS5⟩, by simp [intOf]; omega⟩
      · obtain rfl : j = n := by omega
        go_wp2_with fail
        go_ret
        exact ⟨t', rfl, by omega, HST.out.more (by omega)⟩

end Go.Proofs.YtinnckbffblecaaGreatDoor
