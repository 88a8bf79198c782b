/- Records: their text, on both sides (written by mkrec7.py). Conditions: records that the check lets through; strconv's table. -/
import Derived.Test.YtccffkdaalnfoaaGreatDoorRec6
namespace Go.Proofs.YtccffkdaalnfoaaGreatDoor
open Go.RowKit
set_option linter.unusedVariables false
set_option linter.unusedSimpArgs false


def RecTextOut (rs : List RecD) : ByteArray × Int := if recsFault rs = 0 then (if (recText rs).length ≤ 200000 then (⟨(recText rs).toArray⟩, 0) else (⟨#[]⟩, 2)) else (⟨#[]⟩, recsFault rs)
def RRecText (w : World) (rs : List RecD) (e : Ending) (w' : World) : Prop :=
  e = .returned (.tuple #[.string (RecTextOut rs).1, .int .i64 (RecTextOut rs).2]) ∧ New w w'

set_option maxRecDepth 100000 in
set_option maxHeartbeats 4000000 in
theorem gate_text (rs : List RecD) (A : Option Addr) (n c : Nat) (w : World) (hl : RecRows w A n rs) (hn : n ≤ 1000000) (hks : ∀ r ∈ rs, RecShort r) (hLL : recsFault rs = 0 → ∀ r ∈ rs, LineRec r) (hT : Pow10 w) :
    Calls Tryz.prog 6 #[.slice A n c] w (RRecText w rs) := by
  have hcl := gate_checkRecords rs A n c w hl hn hks
  by_cases hf : recsFault rs = 0
  · have HE : Hid (∀ w', New w w' → (recText rs).length ≤ 200000 → RRecText w rs (.returned (.tuple #[.string ⟨(recText rs).toArray⟩, .int .i64 0])) w') := Lib.hid (fun w' h h2 => ⟨by unfold RecTextOut; rw [if_pos hf, if_pos h2], h⟩)
    have HE2 : Hid (∀ w', New w w' → ¬ (recText rs).length ≤ 200000 → RRecText w rs (.returned (.tuple #[.string ⟨#[]⟩, .int .i64 2])) w') := Lib.hid (fun w' h h2 => ⟨by unfold RecTextOut; rw [if_pos hf, if_neg h2], h⟩)
    have HLL := Lib.hid (hLL hf)
    have HL := Lib.hid hl
    have HT := Lib.hid hT
    have HT0 := HT
    obtain rfl : rs.length = n := hl.1
    rw [hf] at hcl
    clear hf hl hT hLL hks
    go_enter Tryz.func6, Tryz.ntmps6
    go_wp2_with fail
    refine hcl.mono ?_
    clear hcl
    rintro e w1 ⟨rfl, hm1⟩
    have HL1 := Lib.hid (HL.out.new hm1)
    have HT1 := Lib.hid (HT.out.new hm1)
    have hzw := hm1.size
    go_upto_region 5 with (fail)
    have hm2 : New w1 (w1.alloc (.cells #[.pointer none, .slice none 0 0] 50)) := (Mod.refl _ _).alloc _
    have hb2 := Blk.new w1 50 #[.pointer none, .slice none 0 0]
    have hz2 : (w1.alloc (.cells #[.pointer none, .slice none 0 0] 50)).heap.size = w1.heap.size + 1 := by simp
    generalize w1.alloc (.cells #[.pointer none, .slice none 0 0] 50) = w2 at *
    generalize hbb : w1.heap.size = b at *
    have HB0 : Hid (Bld b b [] w2) := Lib.hid (Bld.fresh hb2 (Nat.le_refl _))
    have hltb : ∀ g, TB w2 g 39 → ¬ b ≤ g := fun g hg e => by
      have h1 := hg.lt
      have h2 := hg.ne hb2.tb (by decide)
      omega
    have HLTB := Lib.hid hltb
    have HL2 := Lib.hid (HL1.out.new hm2)
    have HT2 := Lib.hid (HT1.out.new hm2)
    have HMW : Hid (New w w2) := Lib.hid (hm1.trans hm2)
    clear hltb hb2 hm1 hm2 HL1
    go_wp2_with fail
    go_loopw [15] (fun i wr => ∃ k : Nat, k ≤ rs.length ∧ i = .int .i64 k ∧ Hid (Bld b b (recText (rs.take k)) wr) ∧ Hid (Mod (fun x => b ≤ x) w2 wr)) (fun i _ => rs.length - (intOf i).toNat)
    case atStart => exact ⟨0, Nat.zero_le _, rfl, by simpa [recText] using HB0, Lib.hid (Mod.refl _ _)⟩
    case round =>
      rename World => wr
      obtain ⟨k, hk, rfl, HB, HM⟩ := hrel
      by_cases hlt : k < rs.length
      · obtain ⟨g, o, hA, htb, hc⟩ := (HL2.out.mod HM.out HLTB.out).2 (by omega)
        subst hA
        have c0 := hc k hlt 0 (by omega)
        have c1 := hc k hlt 1 (by omega)
        have c2 := hc k hlt 2 (by omega)
        have c3 := hc k hlt 3 (by omega)
        have c4 := hc k hlt 4 (by omega)
        have c5 := hc k hlt 5 (by omega)
        have c6 := hc k hlt 6 (by omega)
        simp only [RecD.enc, Nat.add_zero] at c0 c1 c2 c3 c4 c5 c6
        have hgl := htb.lt
        have hll := HLL.out _ (List.getElem_mem hlt)
        have HTK := Lib.hid (recText_take hlt)
        have hlen : (recText (rs.take k)).length ≤ 1200 * k := by
          have := recText_length (rs := rs.take k) (fun l hl => (HLL.out l (List.mem_of_mem_take hl)).zero)
          rw [List.length_take, Nat.min_eq_left hk] at this
          exact this
        have hb1 : (0 : Int) ≤ k := by omega
        have hb2 : (k : Int) < rs.length := by omega
        clear hc
        generalize rs[k] = r at *
        generalize recText (rs.take k) = L at *
        go_upto_region 8 with (fail)
        have hAl : New wr (wr.alloc (.cells #[.int .i64 r.at_, .string r.route, .string r.caller, .string r.act, .string r.inst, .int .i64 r.status, .int .i64 r.found] 39)) := (Mod.refl _ _).alloc _
        have hbx := Blk.new wr 39 #[.int .i64 r.at_, .string r.route, .string r.caller, .string r.act, .string r.inst, .int .i64 r.status, .int .i64 r.found]
        have HBl := Lib.hid (HB.out.new hAl)
        have HM4 : Hid (Mod (fun x => b ≤ x) w2 (wr.alloc (.cells #[.int .i64 r.at_, .string r.route, .string r.caller, .string r.act, .string r.inst, .int .i64 r.status, .int .i64 r.found] 39))) := Lib.hid (HM.out.alloc _)
        clear c0 c1 c2 c3 c4 c5 c6 hAl
        generalize wr.alloc (.cells #[.int .i64 r.at_, .string r.route, .string r.caller, .string r.act, .string r.inst, .int .i64 r.status, .int .i64 r.found] 39) = w4 at *
        generalize wr.heap.size = xb at *
        have HT4 : Hid (Pow10 w4) := Lib.hid (HT0.out.mod HT2.out HM4.out (fun g hg e => by omega))
        have e0 := hbx.cell 0
        have e1 := hbx.cell 1
        have e2 := hbx.cell 2
        have e3 := hbx.cell 3
        have e4 := hbx.cell 4
        have e5 := hbx.cell 5
        have e6 := hbx.cell 6
        have hel := hbx.lt
        simp only [List.getElem?_toArray, List.getElem?_cons_zero, List.getElem?_cons_succ] at e0 e1 e2 e3 e4 e5 e6
        clear hbx
        have hrt := gate_recordText r w4 hll HT4.out
        go_wp2_with fail
        refine hrt.mono ?_
        clear hrt
        rintro e w5 ⟨rfl, m45⟩
        have hLS := recLineB_size hll.zero
        have hwr := bld_write b b L (recLineB r) w5 (HBl.out.new m45) (by omega)
        have HM8 : Hid (Mod (fun x => b ≤ x) w2 w5) := Lib.hid (HM4.out.trans (m45.mono (fun _ _ e => e.elim)))
        go_wp2_with fail
        refine hwr.mono ?_
        clear hwr
        rintro e w9 ⟨rfl, hb9, hm9⟩
        have HB9 := Lib.hid hb9
        have HM9 := Lib.hid (HM8.out.trans hm9)
        clear hb9 hm9
        go_wp2_with fail
        exact ⟨⟨k + 1, by omega, by go_num, Lib.hid (by rw [HTK.out]; exact HB9.out), HM9⟩, by simp [intOf]; omega⟩
      · obtain rfl : k = rs.length := by omega
        have hB := HB.out
        rw [List.take_of_length_le (Nat.le_refl _)] at hB
        have hst := bld_string b b _ wr hB
        have hle := bld_len b b _ wr hB
        have HMF : Hid (New w wr) := Lib.hid (HMW.out.step HM.out (fun i hi e => by omega))
        clear hB
        generalize recText rs = L at *
        go_wp2_with fail
        refine hle.mono ?_
        clear hle
        rintro e w8 ⟨rfl, rfl⟩
        by_cases hbig : L.length ≤ 200000
        · have hg1 : ¬ (200000 : Int) < L.length := by omega
          have HBIG := Lib.hid hbig
          clear hbig
          go_wp2_with fail
          refine hst.mono ?_
          clear hst
          rintro e w9 ⟨rfl, hm9⟩
          go_wp2_with fail
          go_ret2
          exact HE.out _ (HMW.out.step (HM.out.trans hm9) (fun i hi e => by omega)) HBIG.out
        · have hg1 : (200000 : Int) < L.length := by omega
          have HBIG := Lib.hid hbig
          clear hbig hst
          go_wp2_with fail
          go_ret2
          exact HE2.out _ HMF.out HBIG.out
  · have hf' : (recsFault rs != 0) = true := by simpa using hf
    have HE : Hid (∀ w', New w w' → RRecText w rs (.returned (.tuple #[.string ⟨#[]⟩, .int .i64 (recsFault rs)])) w') := Lib.hid (fun w' h => ⟨by unfold RecTextOut; rw [if_neg hf], h⟩)
    clear hl hT hLL hf
    generalize recsFault rs = F at *
    go_enter Tryz.func6, Tryz.ntmps6
    go_wp2_with fail
    refine hcl.mono ?_
    clear hcl
    rintro e w1 ⟨rfl, hm1⟩
    go_wp2_with fail
    go_ret2
    exact HE.out _ hm1

set_option maxRecDepth 100000 in
set_option maxHeartbeats 4000000 in
theorem ref_recordLines (rs : List RecD) (A : Option Addr) (n c : Nat) (w : World) (hl : RecRows w A n rs) (hn : n ≤ 1000000) (hLL : ∀ r ∈ rs, LineRec0 r) (hT : Pow10 w) :
    Calls Tryz.prog 8 #[.slice A n c] w fun e w' => e = .returned (.string ⟨(recText rs).toArray⟩) ∧ New w w' := by
  · have HLL := Lib.hid hLL
    have HL1 := Lib.hid hl
    have HT1 := Lib.hid hT
    have HT0 := HT1
    obtain rfl : rs.length = n := hl.1
    have hm1 : New w w := Mod.refl _ _
    have hzw := hm1.size
    clear hl hT hLL
    go_enter Tryz.func8, Tryz.ntmps8
    go_upto_region 2 with (fail)
    have hm2 : New w (w.alloc (.cells #[.pointer none, .slice none 0 0] 50)) := (Mod.refl _ _).alloc _
    have hb2 := Blk.new w 50 #[.pointer none, .slice none 0 0]
    have hz2 : (w.alloc (.cells #[.pointer none, .slice none 0 0] 50)).heap.size = w.heap.size + 1 := by simp
    generalize w.alloc (.cells #[.pointer none, .slice none 0 0] 50) = w2 at *
    generalize hbb : w.heap.size = b at *
    have HB0 : Hid (Bld b b [] w2) := Lib.hid (Bld.fresh hb2 (Nat.le_refl _))
    have hltb : ∀ g, TB w2 g 39 → ¬ b ≤ g := fun g hg e => by
      have h1 := hg.lt
      have h2 := hg.ne hb2.tb (by decide)
      omega
    have HLTB := Lib.hid hltb
    have HL2 := Lib.hid (HL1.out.new hm2)
    have HT2 := Lib.hid (HT1.out.new hm2)
    have HMW : Hid (New w w2) := Lib.hid (hm1.trans hm2)
    clear hltb hb2 hm1 hm2 HL1
    go_wp2_with fail
    go_loopw [8] (fun i wr => ∃ k : Nat, k ≤ rs.length ∧ i = .int .i64 k ∧ Hid (Bld b b (recText (rs.take k)) wr) ∧ Hid (Mod (fun x => b ≤ x) w2 wr)) (fun i _ => rs.length - (intOf i).toNat)
    case atStart => exact ⟨0, Nat.zero_le _, rfl, by simpa [recText] using HB0, Lib.hid (Mod.refl _ _)⟩
    case round =>
      rename World => wr
      obtain ⟨k, hk, rfl, HB, HM⟩ := hrel
      by_cases hlt : k < rs.length
      · obtain ⟨g, o, hA, htb, hc⟩ := (HL2.out.mod HM.out HLTB.out).2 (by omega)
        subst hA
        have c0 := hc k hlt 0 (by omega)
        have c1 := hc k hlt 1 (by omega)
        have c2 := hc k hlt 2 (by omega)
        have c3 := hc k hlt 3 (by omega)
        have c4 := hc k hlt 4 (by omega)
        have c5 := hc k hlt 5 (by omega)
        have c6 := hc k hlt 6 (by omega)
        simp only [RecD.enc, Nat.add_zero] at c0 c1 c2 c3 c4 c5 c6
        have hgl := htb.lt
        have hll := HLL.out _ (List.getElem_mem hlt)
        have HTK := Lib.hid (recText_take hlt)
        have hlen : (recText (rs.take k)).length ≤ 1200 * k := by
          have := recText_length (rs := rs.take k) (fun l hl => HLL.out l (List.mem_of_mem_take hl))
          rw [List.length_take, Nat.min_eq_left hk] at this
          exact this
        have hb1 : (0 : Int) ≤ k := by omega
        have hb2 : (k : Int) < rs.length := by omega
        clear hc
        generalize rs[k] = r at *
        generalize recText (rs.take k) = L at *
        go_upto_region 5 with (fail)
        have hAl : New wr (wr.alloc (.cells #[.int .i64 r.at_, .string r.route, .string r.caller, .string r.act, .string r.inst, .int .i64 r.status, .int .i64 r.found] 39)) := (Mod.refl _ _).alloc _
        have hbx := Blk.new wr 39 #[.int .i64 r.at_, .string r.route, .string r.caller, .string r.act, .string r.inst, .int .i64 r.status, .int .i64 r.found]
        have HBl := Lib.hid (HB.out.new hAl)
        have HM4 : Hid (Mod (fun x => b ≤ x) w2 (wr.alloc (.cells #[.int .i64 r.at_, .string r.route, .string r.caller, .string r.act, .string r.inst, .int .i64 r.status, .int .i64 r.found] 39))) := Lib.hid (HM.out.alloc _)
        clear c0 c1 c2 c3 c4 c5 c6 hAl
        generalize wr.alloc (.cells #[.int .i64 r.at_, .string r.route, .string r.caller, .string r.act, .string r.inst, .int .i64 r.status, .int .i64 r.found] 39) = w4 at *
        generalize wr.heap.size = xb at *
        have HT4 : Hid (Pow10 w4) := Lib.hid (HT0.out.mod HT2.out HM4.out (fun g hg e => by omega))
        have e0 := hbx.cell 0
        have e1 := hbx.cell 1
        have e2 := hbx.cell 2
        have e3 := hbx.cell 3
        have e4 := hbx.cell 4
        have e5 := hbx.cell 5
        have e6 := hbx.cell 6
        have hel := hbx.lt
        simp only [List.getElem?_toArray, List.getElem?_cons_zero, List.getElem?_cons_succ] at e0 e1 e2 e3 e4 e5 e6
        clear hbx
        have hrt := ref_recordLine r w4 hll HT4.out
        go_wp2_with fail
        refine hrt.mono ?_
        clear hrt
        rintro e w5 ⟨rfl, m45⟩
        have hLS := recLineB_size hll
        have hwr := bld_write b b L (recLineB r) w5 (HBl.out.new m45) (by omega)
        have HM8 : Hid (Mod (fun x => b ≤ x) w2 w5) := Lib.hid (HM4.out.trans (m45.mono (fun _ _ e => e.elim)))
        go_wp2_with fail
        refine hwr.mono ?_
        clear hwr
        rintro e w9 ⟨rfl, hb9, hm9⟩
        have HB9 := Lib.hid hb9
        have HM9 := Lib.hid (HM8.out.trans hm9)
        clear hb9 hm9
        go_wp2_with fail
        exact ⟨⟨k + 1, by omega, by go_num, Lib.hid (by rw [HTK.out]; exact HB9.out), HM9⟩, by simp [intOf]; omega⟩
      · obtain rfl : k = rs.length := by omega
        have hB := HB.out
        rw [List.take_of_length_le (Nat.le_refl _)] at hB
        have hst := bld_string b b _ wr hB
        clear hB
        generalize hTX : recText rs = L at *
        have HTX := Lib.hid hTX
        clear hTX
        go_wp2_with fail
        refine hst.mono ?_
        clear hst
        rintro e w9 ⟨rfl, hm9⟩
        go_wp2_with fail
        go_ret
        exact ⟨by rw [HTX.out]; rfl, HMW.out.step (HM.out.trans hm9) (fun i hi e => by omega)⟩

end Go.Proofs.YtccffkdaalnfoaaGreatDoor
