/- The law RecordTexts, walked. Conditions: the argument is a slice of ints that can be read; the library's variables lie as they should. -/
import Derived.Test.YtccffkdaalnfoaaGreatDoorRecStr
import Derived.Test.YtccffkdaalnfoaaGreatDoorRecGated
import Derived.Test.YtccffkdaalnfoaaGreatDoorLaw
namespace Go.Proofs.YtccffkdaalnfoaaGreatDoor
open Go.RowKit
set_option linter.unusedVariables false
set_option linter.unusedSimpArgs false

theorem readRF_len {t : ByteArray} (h : t.size ≤ 9000) : (readRF t).1.length ≤ 9001 := by
  have h1 := readG_len (take := takeR) (pieces t nl) [] 0
  have h2 : (pieces t nl).length ≤ 9001 := by
    rw [pieces_length (show 1 ≤ (nl : ByteArray).size from Nat.le_refl _)]
    have := Lib.countB_le nl (Nat.le_refl _) t.size t (Nat.le_refl _)
    omega
  unfold readRF
  split
  · simp
  · split
    · simp
    · simp only [List.length_nil, Nat.zero_add] at h1
      exact Nat.le_trans h1 h2

set_option maxRecDepth 100000 in
set_option maxHeartbeats 4000000 in
theorem records_walk (A : Option Addr) (n c : Nat) (w : World) (h : InInts w A n) (hT0 : Pow10 w) (hX0 : MaxLn w) :
    Calls Tryz.prog 3 #[.slice A n c] w fun e w' => e = .returned (.bool true) ∧ New w w' := by
  have hs := SInv.start (c := c) h
  go_enter Tryz.func3, Tryz.ntmps3
  go_wp2_with fail
  have T0 := SStep.refl hs
  have hA : New w (w.alloc (.cells #[.slice A n c, .int .i64 0] 25)) := (Mod.refl _ _).alloc _
  have HTA := Lib.hid (hT0.new hA)
  have HXA := Lib.hid (hX0.new hA)
  have HT0 := Lib.hid hT0
  have HX0 := Lib.hid hX0
  clear hT0 hX0
  refine (range_any _ _ 0 4 _ hs (by omega) (by omega) (by omega) (by omega)).mono ?_
  rintro e w0 ⟨many, rfl, y0, y1, h0⟩
  obtain ⟨many, rfl⟩ := Int.eq_ofNat_of_zero_le y0
  go_wp2_with fail
  refine (stream_recs _ _ many w0 h0.inv (by omega) (by omega)).mono ?_
  rintro e w1 ⟨Al, nr, cl, rs, rfl, hlr, hnr, hmi, h1⟩
  have T1 := T0.trans (h0.trans h1)
  have HT1 := Lib.hid (HT0.out.mod HTA.out (h0.trans h1).only (fun g hg e => by omega))
  have HX1 := Lib.hid (HX0.out.mod HXA.out (h0.trans h1).only (fun g hg e => by omega))
  clear T0 h0 h1 hA HTA HXA
  generalize hW0 : w.alloc (.cells #[.slice A n c, .int .i64 0] 25) = W0 at *
  have hnews : ∀ w' k, SStep w.heap.size W0 w' k → New w w' := fun w' k hh => by rw [← hW0] at hh; exact hh.news
  have HN := Lib.hid hnews
  clear hnews hW0 hs
  have hks : ∀ r ∈ rs, RecShort r := fun r hr => (hmi r hr).short
  have htx := gate_text rs Al nr cl w1 hlr (by omega) hks (fun hf => recs_line hmi hf) HT1.out
  have hrlen := recText_length (rs := rs) (fun r hr => (hmi r hr).line)
  have hrs := hlr.1
  have hbig : (recText rs).length ≤ 200000 := by omega
  have HLR := Lib.hid hlr
  have HMI := Lib.hid hmi
  have HKS := Lib.hid hks
  clear hlr hmi hks hrlen
  unfold RRecText at htx
  by_cases hf : recsFault rs = 0
  · have ho : RecTextOut rs = (⟨(recText rs).toArray⟩, 0) := by unfold RecTextOut; rw [if_pos hf, if_pos hbig]
    rw [ho] at htx
    go_wp2_with fail
    refine htx.mono ?_
    clear htx
    rintro e w2 ⟨rfl, m2⟩
    have hlf := ref_recordsFault rs Al nr cl w2 (HLR.out.new m2) (by omega) HKS.out
    rw [hf] at hlf
    have T2 := T1.new m2
    have HT2 := Lib.hid (HT1.out.new m2)
    have HX2 := Lib.hid (HX1.out.new m2)
    have HL2 := Lib.hid (HLR.out.new m2)
    clear hf T1 m2 ho hbig hrs
    go_wp2_with fail
    refine hlf.mono ?_
    clear hlf
    rintro e w3 ⟨rfl, m3⟩
    have hll := ref_recordLines rs Al nr cl w3 (HL2.out.new m3) (by omega) (fun r hr => (HMI.out r hr).line) (HT2.out.new m3)
    have T3 := T2.new m3
    have HT3 := Lib.hid (HT2.out.new m3)
    have HX3 := Lib.hid (HX2.out.new m3)
    clear T2 m3 HL2
    generalize (⟨(recText rs).toArray⟩ : ByteArray) = X at *
    go_wp2_with fail
    refine hll.mono ?_
    clear hll
    rintro e wc ⟨rfl, m4⟩
    have TK := T3.new m4
    have HTC := Lib.hid (HT3.out.new m4)
    have HXC := Lib.hid (HX3.out.new m4)
    have hxx : (X.toList == X.toList) = true := by simp
    clear T3 m4
    go_wp2_with fail
    refine (recordString_any w.heap.size _ wc w TK.inv (by omega) HT0.out (Nat.le_refl _) HTC.out).mono ?_
    rintro e w5 ⟨t, rfl, hts, h5⟩
    have T5 := TK.trans h5
    have HT5 := Lib.hid (HT0.out.mod HTC.out h5.only (fun g hg e => by omega))
    have HX5 := Lib.hid (HX0.out.mod HXC.out h5.only (fun g hg e => by omega))
    have hrd := gate_read t w5 hts HX5.out
    have hrl := readRF_len hts
    clear TK h5 HTC HXC
    go_wp2_with fail
    refine hrd.mono ?_
    clear hrd
    rintro e w6 ⟨A6, n6, c6, rfl, hl6, m6⟩
    have T6 := T5.new m6
    have HX6 := Lib.hid (HX5.out.new m6)
    have hrr := ref_recordsRead t w6 hts HX6.out (HT5.out.new m6)
    have HL6 := Lib.hid hl6
    clear hl6 T5 m6
    go_wp2_with fail
    refine hrr.mono ?_
    clear hrr
    rintro e w7 ⟨A7, n7, c7, rfl, hl7, m7⟩
    have T7 := T6.new m7
    have hl6 := HL6.out.new m7
    have HX7 := Lib.hid (HX6.out.new m7)
    have hn : n6 = n7 := by have h1 := hl6.1; have h2 := hl7.1; omega
    subst hn
    have heq := equal_recs (readRF t).1 A6 A7 n6 c6 c7 w7 hl6 hl7 (by have h1 := hl6.1; omega)
    clear hl6 hl7 T6 m7 HL6 hrl
    generalize (readRF t).2.1 = I1 at *
    generalize (readRF t).2.2 = I2 at *
    go_wp2_with fail
    refine heq.mono ?_
    clear heq
    rintro e w8 ⟨rfl, q, rfl⟩
    have hgt := gated_true (w7.drewN q) (HX7.out.new ((Mod.refl _ _).drewN q))
    go_wp2_with fail
    refine hgt.mono ?_
    clear hgt
    rintro e w15 ⟨rfl, m15⟩
    go_wp2_with fail
    go_ret
    exact ⟨rfl, HN.out _ _ ((T7.drewN q).new m15)⟩
  · have ho : RecTextOut rs = (⟨#[]⟩, recsFault rs) := by unfold RecTextOut; rw [if_neg hf]
    rw [ho] at htx
    have hf1 : (recsFault rs == 0) = false := by simpa using hf
    have hf2 : (recsFault rs != 0) = true := by simpa using hf
    have hlf := fun w2 (m2 : New w1 w2) => ref_recordsFault rs Al nr cl w2 (HLR.out.new m2) (by omega) HKS.out
    clear hf ho hbig hrs
    generalize recsFault rs = F at *
    go_wp2_with fail
    refine htx.mono ?_
    clear htx
    rintro e w2 ⟨rfl, m2⟩
    go_wp2_with fail
    refine (hlf w2 m2).mono ?_
    clear hlf
    rintro e wc ⟨rfl, m3⟩
    have TK := (T1.new m2).new m3
    have HTC := Lib.hid ((HT1.out.new m2).new m3)
    have HXC := Lib.hid ((HX1.out.new m2).new m3)
    clear T1 m2 m3
    go_wp2_with fail
    refine (recordString_any w.heap.size _ wc w TK.inv (by omega) HT0.out (Nat.le_refl _) HTC.out).mono ?_
    rintro e w5 ⟨t, rfl, hts, h5⟩
    have T5 := TK.trans h5
    have HT5 := Lib.hid (HT0.out.mod HTC.out h5.only (fun g hg e => by omega))
    have HX5 := Lib.hid (HX0.out.mod HXC.out h5.only (fun g hg e => by omega))
    have hrd := gate_read t w5 hts HX5.out
    have hrl := readRF_len hts
    clear TK h5 HTC HXC
    go_wp2_with fail
    refine hrd.mono ?_
    clear hrd
    rintro e w6 ⟨A6, n6, c6, rfl, hl6, m6⟩
    have T6 := T5.new m6
    have HX6 := Lib.hid (HX5.out.new m6)
    have hrr := ref_recordsRead t w6 hts HX6.out (HT5.out.new m6)
    have HL6 := Lib.hid hl6
    clear hl6 T5 m6
    go_wp2_with fail
    refine hrr.mono ?_
    clear hrr
    rintro e w7 ⟨A7, n7, c7, rfl, hl7, m7⟩
    have T7 := T6.new m7
    have hl6 := HL6.out.new m7
    have HX7 := Lib.hid (HX6.out.new m7)
    have hn : n6 = n7 := by have h1 := hl6.1; have h2 := hl7.1; omega
    subst hn
    have heq := equal_recs (readRF t).1 A6 A7 n6 c6 c7 w7 hl6 hl7 (by have h1 := hl6.1; omega)
    clear hl6 hl7 T6 m7 HL6 hrl
    generalize (readRF t).2.1 = I1 at *
    generalize (readRF t).2.2 = I2 at *
    go_wp2_with fail
    refine heq.mono ?_
    clear heq
    rintro e w8 ⟨rfl, q, rfl⟩
    have hgt := gated_true (w7.drewN q) (HX7.out.new ((Mod.refl _ _).drewN q))
    go_wp2_with fail
    refine hgt.mono ?_
    clear hgt
    rintro e w15 ⟨rfl, m15⟩
    go_wp2_with fail
    go_ret
    exact ⟨rfl, HN.out _ _ ((T7.drewN q).new m15)⟩

end Go.Proofs.YtccffkdaalnfoaaGreatDoor
