/- The text of a template (package route: TemplateText). Conditions: names of at most 1000 bytes. -/
import Derived.Test.YtjehlecgnepgmaaGreatDoorTplT1
namespace Go.Proofs.YtjehlecgnepgmaaGreatDoor
open Go.RowKit
set_option linter.unusedVariables false
set_option linter.unusedSimpArgs false

def PMild (ps : List PartD) : Prop := ∀ p ∈ ps, p.name.size ≤ 1000
theorem PMild.short {ps : List PartD} (h : PMild ps) : PShort ps := fun p hp => by have := h p hp; omega
def RTxt (q : Int × List UInt8) (w : World) (e : Ending) (w' : World) : Prop := e = .returned (.tuple #[.string ⟨q.2.toArray⟩, .int .i64 q.1]) ∧ New w w'
theorem RTxt.fault {q : Int × List UInt8} {w w' : World} {x : Int} (h : q = (x, [])) (hm : New w w') : RTxt q w (.returned (.tuple #[.string ⟨#[]⟩, .int .i64 x])) w' := ⟨by rw [h], hm⟩
theorem partText_length {p : PartD} (h : p.name.size ≤ 1000) : (partText p).length ≤ 3010 := by
  have h1 : p.name.data.toList.length = p.name.size := rfl
  have h2 := segL_length p.name.data.toList
  unfold partText
  split
  · simp only [List.length_cons]; omega
  · split <;> simp only [List.length_cons, List.length_append, List.length_nil] <;> omega
theorem text_stop {ps : List PartD} {k : Nat} {out : List UInt8} (h0 : 0 < ps.length) (h30 : ps.length ≤ 30) (hk : k < ps.length) (h : partsText ps [] [] = partsText (ps.drop k) (ps.take k) out)
    (hne : partBad (ps.take k) ps[k] (decide (k + 1 = ps.length)) ≠ 0) : templateText ps = (partBad (ps.take k) ps[k] (decide (k + 1 = ps.length)), []) := by
  unfold templateText
  rw [if_neg (by omega), if_neg (by omega), h, partsText_more hk, if_pos hne, if_pos hne]
theorem text_step {ps : List PartD} {k : Nat} {out : List UInt8} (hk : k < ps.length) (h : partsText ps [] [] = partsText (ps.drop k) (ps.take k) out)
    (h0 : partBad (ps.take k) ps[k] (decide (k + 1 = ps.length)) = 0) : partsText ps [] [] = partsText (ps.drop (k + 1)) (ps.take (k + 1)) (out ++ partText ps[k]) := by
  rw [h, partsText_more hk, if_neg (fun e => e h0)]
theorem text_end {ps : List PartD} {out : List UInt8} (h0 : 0 < ps.length) (h30 : ps.length ≤ 30) (h : partsText ps [] [] = partsText (ps.drop ps.length) (ps.take ps.length) out) :
    templateText ps = if out.length > 1000 then (3, []) else (0, out) := by
  unfold templateText
  rw [if_neg (by omega), if_neg (by omega), h, List.drop_length]
  rfl
theorem badArg_kind {pk : Int} {pn : ByteArray} {b : List PartD} {l : Bool} (h : badArg pk pn b l = 0) : pk = 1 ∨ pk = 2 ∨ pk = 3 := by
  unfold badArg at h
  split at h
  · exact absurd h (by decide)
  · rename_i h1
    simp only [Bool.or_eq_true, decide_eq_true_eq, not_or] at h1
    omega
theorem cat_list (a b : ByteArray) : (a ++ b).data.toList = a.data.toList ++ b.data.toList := by simp [ByteArray.data_append]

set_option maxRecDepth 100000 in
set_option maxHeartbeats 3000000 in
theorem route_templateText (A : Option Addr) (n c : Nat) (ps : List PartD) (w : World) (hps : PSl w A n ps) (hnc : n ≤ c) (hn : n ≤ 100000) (hsh : PMild ps) :
    Calls Tryz.prog 10 #[.slice A n c] w (RTxt (templateText ps) w) := by
  have hl := hps.1
  by_cases h0 : n = 0
  · subst h0
    have HQ : Hid (templateText ps = (3, [])) := Lib.hid (by unfold templateText; rw [if_pos (by omega)])
    clear hl hps
    go_enter Tryz.func10, Tryz.ntmps10
    go_wp2_with fail
    go_ret2
    exact RTxt.fault HQ.out (Mod.refl _ _)
  have h0' : ((n : Int) == 0) = false := by simp; omega
  by_cases h30 : 30 < n
  · have h30' : (30 : Int) < (n : Int) := by omega
    have HQ : Hid (templateText ps = (2, [])) := Lib.hid (by unfold templateText; rw [if_neg (by omega), if_pos (by omega)])
    clear hl hps h0
    go_enter Tryz.func10, Tryz.ntmps10
    go_wp2_with fail
    go_ret2
    exact RTxt.fault HQ.out (Mod.refl _ _)
  have h30' : ¬ (30 : Int) < (n : Int) := by omega
  have hb0 := Blk.new w 69 #[.pointer none, .slice none 0 0]
  have hm0 : New w (w.alloc (.cells #[.pointer none, .slice none 0 0] 69)) := (Mod.refl _ _).alloc _
  have HPS := Lib.hid hps
  have HSH := Lib.hid hsh
  have HLN := Lib.hid hl
  clear hps hsh
  go_enter Tryz.func10, Tryz.ntmps10
  go_upto_region 6 with fail
  generalize w.alloc (.cells #[.pointer none, .slice none 0 0] 69) = w1 at *
  generalize hbe : w.heap.size = B at *
  have HB := Lib.hid (Bw.fresh hb0 (Nat.le_refl _))
  have HM := Lib.hid hm0
  have HBE := Lib.hid hbe
  clear hb0 hm0 hbe
  go_wp2_with fail
  go_loopw [16] (fun i wr => ∃ (k : Nat) (out : List UInt8), k ≤ n ∧ i = .int .i64 k ∧ Hid (partsText ps [] [] = partsText (ps.drop k) (ps.take k) out) ∧ Hid (out.length ≤ 3010 * k) ∧ Hid (Bw 69 B B out wr) ∧ Hid (New w wr)) (fun i _ => n - (intOf i).toNat)
  case atStart => exact ⟨0, [], Nat.zero_le _, rfl, Lib.hid rfl, Lib.hid (Nat.zero_le _), HB, HM⟩
  case round =>
    clear HB HM
    rename World => wr
    obtain ⟨k, out, hk, rfl, HT, HZ, HB, HM⟩ := hrel
    by_cases hlt : k < n
    · have hkp : k < ps.length := by omega
      have hpf := fun W (h : New w W) => route_partFault A n c ps k W (HPS.out.new h) hn hnc hkp HSH.out.short
      have hst := text_stop (by omega) (by omega) hkp HT.out
      have hsp := text_step hkp HT.out
      have hzt := partText_length (HSH.out _ (List.getElem_mem hkp))
      obtain ⟨g, o, hA, htb, hc⟩ := (HPS.out.new HM.out).2 (by omega)
      have hgl := htb.lt
      have c0 := hc k hkp 0 (by decide)
      have c1 := hc k hkp 1 (by decide)
      have hnz := HSH.out _ (List.getElem_mem hkp)
      generalize ps.take k = before at *
      generalize ps[k] = p at *
      generalize decide (k + 1 = ps.length) = last at *
      obtain ⟨pk, pn⟩ := p
      rw [partBad_arg] at hst hsp hpf
      simp only [PartD.enc, Nat.add_zero] at c0 c1
      simp only at hnz
      have HPF := Lib.hid hpf
      have HST := Lib.hid hst
      have HSP := Lib.hid hsp
      have HKD := Lib.hid (fun h => badArg_kind (pk := pk) (pn := pn) (b := before) (l := last) h)
      clear hpf hst hsp hc htb HT
      generalize badArg pk pn before last = q at *
      subst hA
      have hb1 : (0 : Int) ≤ k := by omega
      have hb2 : (k : Int) < n := by omega
      have hbx := Blk.new wr 34 #[.int .i64 pk, .string pn]
      have hmx : New wr (wr.alloc (.cells #[.int .i64 pk, .string pn] 34)) := (Mod.refl _ _).alloc _
      go_upto_region 9 with fail
      have HX := Lib.hid hbx
      have HM1 : Hid (New w _) := Lib.hid (HM.out.trans hmx)
      have HB1 := Lib.hid (HB.out.new hmx)
      clear hbx hmx HM HB c0 c1
      generalize wr.alloc (.cells #[.int .i64 pk, .string pn] 34) = w2 at *
      generalize wr.heap.size = xb at *
      have hpf := HPF.out w2 HM1.out
      go_wp2_with fail
      refine hpf.mono ?_
      clear hpf
      rintro e w3 ⟨rfl, hm3⟩
      go_upto_region 10 with fail
      have HX3 := Lib.hid (HX.out.new2 hm3)
      have HM : Hid (New w w3) := Lib.hid (HM1.out.trans hm3)
      have HB := Lib.hid (HB1.out.new hm3)
      clear hm3 HX HM1 HB1
      have x0 := HX3.out.cell 0
      have x1 := HX3.out.cell 1
      have xl := HX3.out.lt
      simp only [List.getElem?_toArray, List.getElem?_cons_zero, List.getElem?_cons_succ] at x0 x1
      by_cases hq : q = 0
      · subst hq
        have HS1 := Lib.hid (HSP.out rfl)
        have hkd := HKD.out rfl
        have hl0 : ¬ (9223372036854775807 : Nat) < pn.size := by omega
        rcases hkd with rfl | rfl | rfl
        · have hsg := fun W => msg_segment pn W (by omega)
          have hsz : (⟨(segL pn.data.toList).toArray⟩ : ByteArray).size ≤ 3000 := by
            have h2 := segL_length pn.data.toList
            have h3 : pn.data.toList.length = pn.size := rfl
            show (segL pn.data.toList).toArray.size ≤ 3000
            simp only [List.size_toArray]
            omega
          have HTX : Hid (((⟨#[47]⟩ : ByteArray) ++ ⟨(segL pn.data.toList).toArray⟩).data.toList = partText ⟨1, pn⟩) := Lib.hid (by rw [cat_list]; rfl)
          have HZ1 : Hid ((out ++ partText ⟨1, pn⟩).length ≤ 3010 * (k + 1)) := Lib.hid (by have := HZ.out; rw [List.length_append]; omega)
          generalize (⟨(segL pn.data.toList).toArray⟩ : ByteArray) = T at *
          have hadd : ¬ 9223372036854775807 < (⟨#[47]⟩ : ByteArray).size + T.size := by have e : (⟨#[47]⟩ : ByteArray).size = 1 := rfl; omega
          have e1 : (⟨#[47]⟩ : ByteArray).size = 1 := rfl
          have hsg := hsg w3
          have HZT := Lib.hid hzt
          clear hzt
          go_upto_region 15 with fail
          go_wp2_with fail
          refine hsg.mono ?_
          clear hsg
          rintro e w4 ⟨rfl, hm4⟩
          have HM4 : Hid (New w w4) := Lib.hid (HM.out.trans hm4)
          have HB4 := Lib.hid (HB.out.new hm4)
          clear hm4 HM HB
          have HM := HM4
          have HB := HB4
          clear HM4 HB4
          go_wp2_with fail
          obtain ⟨U, hU⟩ : ∃ U : ByteArray, U = (⟨#[47]⟩ ++ T) := ⟨_, rfl⟩
          rw [← hU] at HTX
          rw [← hU]
          have hUz : U.size ≤ 3010 := by
            have h1 : U.data.toList.length = U.size := rfl
            rw [HTX.out] at h1
            have := HZT.out
            omega
          have hsum : out.length + U.size ≤ 1000000 := by have := HZ.out; omega
          have hwr := bw_string buT_self B B out U _ HB.out hsum
          clear hU hUz hsum
          refine hwr.mono ?_
          clear hwr
          rintro e w5 ⟨rfl, hb5, hm5, -⟩
          have HM5 := Lib.hid (HM.out.from hm5 (Nat.le_of_eq HBE.out))
          have HB5 := Lib.hid hb5
          clear hb5 hm5 HB HM
          go_wp2_with fail
          go_roundw
          case rel => exact ⟨k + 1, _, by omega, by go_num, HS1, HZ1, by rw [← HTX.out]; exact HB5, HM5⟩
          case measure => simp [intOf]; omega
        · have HTX : Hid (((⟨#[47, 123]⟩ : ByteArray) ++ pn ++ ⟨#[125]⟩).data.toList = partText ⟨2, pn⟩) := Lib.hid (by rw [cat_list, cat_list]; rfl)
          have HZ1 : Hid ((out ++ partText ⟨2, pn⟩).length ≤ 3010 * (k + 1)) := Lib.hid (by have := HZ.out; rw [List.length_append]; omega)
          have e2 : (⟨#[47, 123]⟩ : ByteArray).size = 2 := rfl
          have e1 : (⟨#[125]⟩ : ByteArray).size = 1 := rfl
          have hadd : ¬ 9223372036854775807 < (⟨#[47, 123]⟩ : ByteArray).size + pn.size := by omega
          have hadd2 : ¬ 9223372036854775807 < ((⟨#[47, 123]⟩ : ByteArray) ++ pn).size + (⟨#[125]⟩ : ByteArray).size := by rw [ByteArray.size_append]; omega
          have HZT := Lib.hid hzt
          clear hzt
          go_upto_region 17 with fail
          go_wp2_with fail
          obtain ⟨U, hU⟩ : ∃ U : ByteArray, U = (⟨#[47, 123]⟩ ++ pn ++ ⟨#[125]⟩) := ⟨_, rfl⟩
          rw [← hU] at HTX
          rw [← hU]
          have hUz : U.size ≤ 3010 := by
            have h1 : U.data.toList.length = U.size := rfl
            rw [HTX.out] at h1
            have := HZT.out
            omega
          have hsum : out.length + U.size ≤ 1000000 := by have := HZ.out; omega
          have hwr := bw_string buT_self B B out U _ HB.out hsum
          clear hU hUz hsum
          refine hwr.mono ?_
          clear hwr
          rintro e w5 ⟨rfl, hb5, hm5, -⟩
          have HM5 := Lib.hid (HM.out.from hm5 (Nat.le_of_eq HBE.out))
          have HB5 := Lib.hid hb5
          clear hb5 hm5 HB HM
          go_wp2_with fail
          go_roundw
          case rel => exact ⟨k + 1, _, by omega, by go_num, HS1, HZ1, by rw [← HTX.out]; exact HB5, HM5⟩
          case measure => simp [intOf]; omega
        · have HTX : Hid (((⟨#[47, 123]⟩ : ByteArray) ++ pn ++ ⟨#[42, 125]⟩).data.toList = partText ⟨3, pn⟩) := Lib.hid (by rw [cat_list, cat_list]; rfl)
          have HZ1 : Hid ((out ++ partText ⟨3, pn⟩).length ≤ 3010 * (k + 1)) := Lib.hid (by have := HZ.out; rw [List.length_append]; omega)
          have e2 : (⟨#[47, 123]⟩ : ByteArray).size = 2 := rfl
          have e1 : (⟨#[42, 125]⟩ : ByteArray).size = 2 := rfl
          have hadd : ¬ 9223372036854775807 < (⟨#[47, 123]⟩ : ByteArray).size + pn.size := by omega
          have hadd2 : ¬ 9223372036854775807 < ((⟨#[47, 123]⟩ : ByteArray) ++ pn).size + (⟨#[42, 125]⟩ : ByteArray).size := by rw [ByteArray.size_append]; omega
          have HZT := Lib.hid hzt
          clear hzt
          go_upto_region 13 with fail
          go_wp2_with fail
          obtain ⟨U, hU⟩ : ∃ U : ByteArray, U = (⟨#[47, 123]⟩ ++ pn ++ ⟨#[42, 125]⟩) := ⟨_, rfl⟩
          rw [← hU] at HTX
          rw [← hU]
          have hUz : U.size ≤ 3010 := by
            have h1 : U.data.toList.length = U.size := rfl
            rw [HTX.out] at h1
            have := HZT.out
            omega
          have hsum : out.length + U.size ≤ 1000000 := by have := HZ.out; omega
          have hwr := bw_string buT_self B B out U _ HB.out hsum
          clear hU hUz hsum
          refine hwr.mono ?_
          clear hwr
          rintro e w5 ⟨rfl, hb5, hm5, -⟩
          have HM5 := Lib.hid (HM.out.from hm5 (Nat.le_of_eq HBE.out))
          have HB5 := Lib.hid hb5
          clear hb5 hm5 HB HM
          go_wp2_with fail
          go_roundw
          case rel => exact ⟨k + 1, _, by omega, by go_num, HS1, HZ1, by rw [← HTX.out]; exact HB5, HM5⟩
          case measure => simp [intOf]; omega
      · have hq' : ((q : Int) != 0) = true := by simpa using hq
        have HE := HST.out hq
        clear hq
        go_wp2_with fail
        go_ret2
        exact RTxt.fault HE HM.out
    · obtain rfl : k = n := by omega
      have HE : Hid (templateText ps = if out.length > 1000 then (3, []) else (0, out)) := Lib.hid (text_end (by omega) (by omega) (by rw [HLN.out]; exact HT.out))
      have hln := bw_len B B out wr HB.out
      by_cases hbig : 1000 < out.length
      · have hbig' : (1000 : Int) < (out.length : Int) := by omega
        have HE2 : Hid (templateText ps = (3, [])) := Lib.hid (by rw [HE.out, if_pos hbig])
        go_wp2_with (first | (refine hln.mono ?_; clear hln; rintro e w4 ⟨rfl, hw4⟩; rw [hw4]; clear hw4))
        go_ret2
        exact RTxt.fault HE2.out HM.out
      · have hbig' : ¬ (1000 : Int) < (out.length : Int) := by omega
        have HE2 : Hid (templateText ps = (0, out)) := Lib.hid (by rw [HE.out, if_neg hbig])
        have hst := bw_any B B out wr HB.out
        go_wp2_with (first | (refine hln.mono ?_; clear hln; rintro e w4 ⟨rfl, hw4⟩; rw [hw4]; clear hw4) | (refine hst.mono ?_; clear hst; rintro e w5 ⟨rfl, hm5⟩; have HM5 := Lib.hid (HM.out.from hm5 (Nat.le_of_eq HBE.out)); clear hm5))
        go_ret2
        exact ⟨by rw [HE2.out]; rfl, HM5.out⟩

end Go.Proofs.YtjehlecgnepgmaaGreatDoor
