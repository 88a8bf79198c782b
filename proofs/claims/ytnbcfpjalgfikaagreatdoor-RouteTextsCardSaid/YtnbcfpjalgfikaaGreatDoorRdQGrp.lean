/- Several texts in one. (1) The reference's reading of a line of routes (the closure RoutesRead$1). Conditions: a line of modest size; the library's variable on searching is an int. (2) route.Read, walked. Conditions: the text is short; the library's variable on searching is an int. (3) The reference's reading of routes, line by line (gateref1.Lines over its closure), and whole. Conditions: the text is short; the library's variables lie as they should. -/
import Derived.Test.YtnbcfpjalgfikaaGreatDoorRdLine
import Derived.Test.YtnbcfpjalgfikaaGreatDoorRtChk1Grp
import Derived.Test.YtnbcfpjalgfikaaGreatDoorRefToGrp

namespace Go.Proofs.YtnbcfpjalgfikaaGreatDoor
open Go.RowKit
set_option linter.unusedVariables false
set_option linter.unusedSimpArgs false




/-- the closure's variables: the routes read so far in block bo, the last line's kind in block lb -/
def RdQAt (w : World) (B bo lb : Nat) (s : RdS) : Prop := B ≤ bo ∧ B ≤ lb ∧ ∃ A n c, Blk w bo 26 #[.slice A n c] ∧ Blk w lb 3 #[.int .i64 ((s.kind : Int) - 1)] ∧ RdRows w B A n c s.out
theorem RdQAt.new {w w' : World} {B bo lb : Nat} {s : RdS} (h : RdQAt w B bo lb s) (hm : New w w') : RdQAt w' B bo lb s := by
  obtain ⟨h1, h2, A, n, c, h3, h4, h5⟩ := h
  exact ⟨h1, h2, A, n, c, h3.mod hm (fun e => e), h4.mod hm (fun e => e), h5.new hm⟩
def RRdQ (line : ByteArray) (B bo lb : Nat) (s : RdS) (w : World) (e : Ending) (w' : World) : Prop :=
  e = .returned (.bool (stepR s line).isSome) ∧ Mod (fun k => B ≤ k) w w' ∧ ∀ s', stepR s line = some s' → RdQAt w' B bo lb s'
theorem RRdQ.no {line : ByteArray} {B bo lb : Nat} {s : RdS} {w w' : World} (h : stepR s line = none) (hm : Mod (fun k => B ≤ k) w w') : RRdQ line B bo lb s w (.returned (.bool false)) w' :=
  ⟨by rw [h]; rfl, hm, fun s' e => by rw [h] at e; cases e⟩
theorem RRdQ.yes {line : ByteArray} {B bo lb : Nat} {s s1 : RdS} {w w' : World} (h : stepR s line = some s1) (hm : Mod (fun k => B ≤ k) w w') (hr : RdQAt w' B bo lb s1) : RRdQ line B bo lb s w (.returned (.bool true)) w' :=
  ⟨by rw [h]; rfl, hm, fun s' e => by rw [h] at e; injection e with e; subst e; exact hr⟩

set_option maxRecDepth 100000 in
set_option maxHeartbeats 4000000 in
theorem ref_rdLine (line : ByteArray) (B bo lb m : Nat) (s : RdS) (w w0 : World) (h : RdQAt w B bo lb s) (hsm : RdSmall m s) (hm : m ≤ 9001) (hB0 : w0.heap.size ≤ B) (hB : B ≤ w.heap.size) (hs : line.size ≤ 9000) (hx0 : MaxLn w0) (hx : MaxLn w) :
    Calls Tryz.prog 30 #[.string line, .pointer (some ⟨bo, 0, none⟩), .pointer (some ⟨lb, 0, none⟩)] w (RRdQ line B bo lb s w) := by
  have hsp := split_any line 32 w (by omega) hx
  obtain ⟨P, hP⟩ := pieces_head line
  have hPL : (pieces line sp).length ≤ 9001 := by
    rw [pieces_length (show 1 ≤ (sp : ByteArray).size from Nat.le_refl _)]
    have := Lib.countB_le sp (Nat.le_refl _) line.size line (Nat.le_refl _)
    omega
  obtain ⟨kd, hkd⟩ : ∃ kd, lineKind line = kd := ⟨_, rfl⟩
  have hk4 : kd ≤ 4 := by rw [← hkd]; exact kindW_le _
  obtain ⟨ki, hki1⟩ : ∃ ki : Int, ki = (kd : Int) - 1 := ⟨_, rfl⟩
  have hki : Lib.idxOfS kinds4q (wd line) = ki := by rw [kindW_ref, ← lineKind_eq, hkd, hki1]
  have hsk := hsm.kind
  have HNO : Hid (∀ w', stepR s line = none → Mod (fun k => B ≤ k) w w' → RRdQ line B bo lb s w (.returned (.bool false)) w') := Lib.hid (fun w' h1 h2 => .no h1 h2)
  have HBAD : Hid (kindOk s kd = false → stepR s line = none) := Lib.hid (fun h => stepR_bad (by rw [hkd]; exact h))
  have HND : Hid (kindOk s kd = true → kd = 4 → stepR s line = (needQ (Lib.splitB sp 0 2 line)).map fun p => ⟨onLast (fun r => { r with needs := r.needs ++ [p] }) s.out, 4⟩) := Lib.hid (fun h h4 => by
    rw [needQ_eq]
    exact stepR_need (by rw [hkd]; exact h) (by rw [hkd]; exact h4))
  have HWD : Hid (kindOk s kd = true → kd ≠ 4 → stepR s line = if Lib.containsS (wd line :: P) ⟨#[]⟩ then none else stepW s kd P) := Lib.hid (fun h h4 => by
    have q := stepR_all (s := s) (line := line) (by rw [hkd]; exact h) (by rw [hkd]; exact h4)
    rw [hP, hkd] at q
    exact q)
  have HNL : Hid (kd = 4 → 4 ≤ line.size) := Lib.hid (fun h4 => by
    have h1 := kindW_need (b := wd line) (by rw [← lineKind_eq, hkd, h4])
    have h2 := wd_le line
    rw [h1] at h2
    exact h2)
  have HLL := Lib.hid (split2_len line)
  have HLN := Lib.hid (split2_ne line)
  have hSN := fun (W : World) (m : Int) (hm : W.cell? ⟨0, 0, none⟩ = some (.int .i64 m)) => Tryz.strings_SplitN line sp 3 m W (by omega) hm (Nat.le_refl _) (by omega) (by omega)
  have HSN := Lib.hid hSN
  have HSM := Lib.hid hsm
  have HX0 := Lib.hid hx0
  have HXW := Lib.hid hx
  obtain ⟨hBo, hBl, A, n, c, hbo, hbl, hrr⟩ := h
  have HBO := Lib.hid hBo
  have HBL := Lib.hid hBl
  have HO0 := Lib.hid hbo
  have HL0 := Lib.hid hbl
  have HR0 := Lib.hid hrr
  have hnn := hrr.len
  obtain ⟨okk, hokk⟩ : ∃ q, kindOk s kd = q := ⟨_, rfl⟩
  have HOK := Lib.hid hokk
  have hzE := hsm.zero
  have hol := hsm.out
  rw [hP] at hsp hPL
  clear hkd hsm hx0 hx hokk hP hSN hBo hBl hbo hbl hrr
  generalize hwd : wd line = word at *
  clear hwd
  have HPL := Lib.hid hPL
  obtain ⟨N, hN⟩ : ∃ N, (word :: P).length = N := ⟨_, rfl⟩
  have hN9 : N ≤ 9001 := by omega
  have hN0 : 0 < N := by rw [← hN]; simp
  have hNi : (0 : Int) < N := by omega
  rw [hN] at hsp
  have HN := Lib.hid hN
  clear hPL hN
  go_enter Tryz.func30, Tryz.ntmps30
  go_wp2_with fail
  refine hsp.mono ?_
  clear hsp
  rintro e w1 ⟨rfl, hw1⟩
  have m1 : New w w1 := by rw [hw1]; exact (Mod.refl _ _).alloc _
  have HN1 := Lib.hid m1
  have HM1 := Lib.hid (Mod.old B m1)
  have HX1 := Lib.hid (HXW.out.new m1)
  have HP1 : Hid (Blk w1 w.heap.size 9 (strCs (word :: P))) := Lib.hid (by rw [hw1]; exact Blk.new _ _ _)
  have hB1 : B ≤ w1.heap.size := by have := m1.size; omega
  clear m1 hw1
  have hbk := Blk.new w1 9 (strCs kinds4q)
  have hix := Tryz.slices_Index_string w1.heap.size 0 4 4 kinds4q word (w1.alloc (.cells (strCs kinds4q) 9)) (by decide) (by omega) (fun j hj => by rw [Nat.zero_add]; exact strs_at hbk j hj)
  rw [List.take_of_length_le (by decide), hki] at hix
  have hm3 : New w1 (w1.alloc (.cells (strCs kinds4q) 9)) := (Mod.refl _ _).alloc _
  have HP3 := Lib.hid (HP1.out.mod hm3 (fun e => e))
  unfold strCs kinds4q at hix hm3
  simp only [List.map_cons, List.map_nil] at hix hm3
  have p0 : (w1.alloc (.cells #[.string ⟨#[114, 111, 117, 116, 101]⟩, .string ⟨#[104, 111, 115, 116]⟩, .string ⟨#[109, 101, 116, 104, 111, 100]⟩, .string ⟨#[110, 101, 101, 100]⟩] 9)).cell? ⟨w.heap.size, 0, none⟩ = some (.string word) := ((HP1.out.mod hm3 (fun e => e)).cell 0).trans rfl
  have pl := (HP1.out.mod hm3 (fun e => e)).lt
  clear hbk hki
  go_wp2_with fail
  refine hix.mono ?_
  clear hix
  rintro e w3 ⟨rfl, rfl⟩
  have HN3 := Lib.hid (HN1.out.trans hm3)
  have HM3 := Lib.hid (HM1.out.trans (Mod.old B hm3))
  have HX3 := Lib.hid (HX1.out.new hm3)
  have HP3 := Lib.hid (HP1.out.mod hm3 (fun e => e))
  have hB3 : B ≤ (w1.alloc (.cells #[.string ⟨#[114, 111, 117, 116, 101]⟩, .string ⟨#[104, 111, 115, 116]⟩, .string ⟨#[109, 101, 116, 104, 111, 100]⟩, .string ⟨#[110, 101, 101, 100]⟩] 9)).heap.size := by have := hm3.size; omega
  clear hm3 HN1 HM1 HX1 hB1 p0 pl HP1
  generalize w1.alloc (.cells #[.string ⟨#[114, 111, 117, 116, 101]⟩, .string ⟨#[104, 111, 115, 116]⟩, .string ⟨#[109, 101, 116, 104, 111, 100]⟩, .string ⟨#[110, 101, 101, 100]⟩] 9) = w3 at *
  generalize hpb : w.heap.size = pb at *
  have HPP := Lib.hid hpb
  clear hpb
  have hbo := HO0.out.mod HN3.out (fun e => e)
  have hbl := HL0.out.mod HN3.out (fun e => e)
  obtain ⟨sk, hsk1⟩ : ∃ sk : Int, sk = (s.kind : Int) - 1 := ⟨_, rfl⟩
  rw [← hsk1] at hbl
  have HKI := Lib.hid hki1
  have HSK := Lib.hid hsk1
  clear hki1 hsk1
  have HO3 := Lib.hid hbo
  have HL3 := Lib.hid hbl
  have HRR := Lib.hid (HR0.out.new HN3.out)
  have c0 := hbo.cell 0
  have cl := hbo.lt
  have d0 := hbl.cell 0
  have dl := hbl.lt
  simp only [List.getElem?_toArray, List.getElem?_cons_zero, List.getElem?_cons_succ] at c0 d0
  clear hbo hbl
  go_upto_region 3 with (fail)
  go_cut [32] (fun s32 wx => s32 = .bool (!okk) ∧ wx = w3)
  case first =>
    by_cases k0 : kd = 0
    · have a1 : ki < 0 := by have := HKI.out; omega
      have HQ : Hid (okk = false) := Lib.hid (by rw [← HOK.out, k0]; rfl)
      clear k0
      go_wp2_with fail
      go_meet
      case rel => exact ⟨by rw [HQ.out]; rfl, rfl⟩
    · have a1 : ¬ ki < 0 := by have := HKI.out; omega
      by_cases k1 : kd = 1
      · have a2 : ¬ (0 : Int) < ki := by have := HKI.out; omega
        have HQ : Hid (okk = true) := Lib.hid (by rw [← HOK.out, k1]; rfl)
        clear k0 k1
        go_wp2_with fail
        go_meet
        case rel => exact ⟨by rw [HQ.out]; rfl, rfl⟩
      · have a2 : (0 : Int) < ki := by have := HKI.out; omega
        have HQ : Hid (okk = (decide (s.kind ≤ kd) && decide (s.kind ≠ 0))) := Lib.hid (by rw [← HOK.out, kindOk_two (by omega)])
        by_cases k3 : s.kind = 0
        · have a4 : ((n : Int) == 0) = true := by
            have : s.out = [] := hzE.1 k3
            rw [this] at hnn
            simp at hnn ⊢
            omega
          have HQ2 : Hid (okk = false) := Lib.hid (by rw [HQ.out, k3]; simp)
          clear k0 k1 k3 hnn hzE
          go_wp2_with fail
          go_meet
          case rel => exact ⟨by rw [HQ2.out]; rfl, rfl⟩
        · have a4 : ((n : Int) == 0) = false := by
            have h1 : s.out ≠ [] := fun e => k3 (hzE.2 e)
            have h2 : 0 < s.out.length := List.length_pos_iff.2 h1
            simp; omega
          by_cases k2 : kd < s.kind
          · have a3 : ki < sk := by have := HKI.out; have := HSK.out; omega
            have HQ2 : Hid (okk = false) := Lib.hid (by rw [HQ.out, decide_eq_false (by omega)]; rfl)
            clear k0 k1 k2 k3 hnn hzE
            go_wp2_with fail
            go_meet
            case rel => exact ⟨by rw [HQ2.out]; rfl, rfl⟩
          · have a3 : ¬ ki < sk := by have := HKI.out; have := HSK.out; omega
            have HQ2 : Hid (okk = true) := Lib.hid (by rw [HQ.out, decide_eq_true (by omega)]; simpa using k3)
            clear k0 k1 k2 k3 hnn hzE
            go_wp2_with fail
            go_meet
            case rel => exact ⟨by rw [HQ2.out]; rfl, rfl⟩
  case rest =>
    rename World => wx
    obtain ⟨rfl, rfl⟩ := hcut
    cases okk
    · go_wp2_with fail
      go_ret
      exact HNO.out _ (HBAD.out HOK.out) HM3.out
    · have hkp := kindOk_parts HOK.out
      have HND2 := Lib.hid (HND.out HOK.out)
      have HWD2 := Lib.hid (HWD.out HOK.out)
      have hk1 : 1 ≤ kd := by have := hkp.1; omega
      have HKK := Lib.hid hkp.2
      have HZE := Lib.hid hzE
      clear hkp HND HWD HBAD HOK hzE hnn
      have cf := HL3.out.frozen 0
      have HS4 : Hid (Mod (fun k => k = lb) wx (wx.setCell ⟨lb, 0, none⟩ (.int .i64 ki))) := Lib.hid (Mod.setCell (S := fun k => k = lb) (p := ⟨lb, 0, none⟩) (Mod.refl _ _) (.inl rfl) _)
      have HL4 : Hid (Blk (wx.setCell ⟨lb, 0, none⟩ (.int .i64 ki)) lb 3 #[.int .i64 ki]) := Lib.hid (by simpa using HL3.out.set 0 (.int .i64 ki))
      have HO4 : Hid (Blk (wx.setCell ⟨lb, 0, none⟩ (.int .i64 ki)) bo 26 #[.slice A n c]) := Lib.hid (HO3.out.mod HS4.out (HO3.out.tb.ne HL3.out.tb (by decide)))
      have HP4 : Hid (Blk (wx.setCell ⟨lb, 0, none⟩ (.int .i64 ki)) pb 9 (strCs (word :: P))) := Lib.hid (HP3.out.mod HS4.out (HP3.out.tb.ne HL3.out.tb (by decide)))
      have HR4 : Hid (RdRows (wx.setCell ⟨lb, 0, none⟩ (.int .i64 ki)) B A n c s.out) := Lib.hid (HRR.out.mod HS4.out (fun k _ ht e => by
        rcases ht with ht | ht | ht
        · exact ht.ne HL3.out.tb (by decide) e
        · exact ht.ne HL3.out.tb (by decide) e
        · exact ht.ne HL3.out.tb (by decide) e))
      have HM4 : Hid (Mod (fun k => B ≤ k) w (wx.setCell ⟨lb, 0, none⟩ (.int .i64 ki))) := Lib.hid (HM3.out.trans (Mod.mono HS4.out (fun i _ e => by have := HBL.out; omega)))
      have HX4 : Hid (MaxLn (wx.setCell ⟨lb, 0, none⟩ (.int .i64 ki))) := Lib.hid (HX0.out.mod HX3.out HS4.out (fun g hg e => by have := HBL.out; omega))
      have hB4 : B ≤ (wx.setCell ⟨lb, 0, none⟩ (.int .i64 ki)).heap.size := by have := HS4.out.size; omega
      have HW4 : Hid (Mod (fun k => k = lb) w (wx.setCell ⟨lb, 0, none⟩ (.int .i64 ki))) := Lib.hid ((Mod.mono HN3.out (fun _ _ e => e.elim)).trans HS4.out)
      have HLT : Hid (TB w lb 3) := Lib.hid HL0.out.tb
      go_upto_region 6 with (fail)
      clear c0 cl d0 dl cf HS4 HO3 HL3 HRR HM3 HX3 hB3 HP3
      generalize wx.setCell ⟨lb, 0, none⟩ (.int .i64 ki) = w4 at *
      by_cases k4 : kd = 4
      · subst k4
        obtain rfl : ki = 3 := by have := HKI.out; omega
        have hls := HNL.out rfl
        have HND := Lib.hid (HND2.out rfl)
        have hne : s.out ≠ [] := fun e => (HKK.out (by omega)).2 (HZE.out.2 e)
        obtain ⟨g, pre, x, pout, r, hA, hout, hX⟩ := HR4.out.last hne
        subst hA
        have HX4' := Lib.hid hX
        obtain ⟨hn1, hn2⟩ := hX.num
        have hpl : pre.length ≤ 9001 := by rw [hout] at hol; simp at hol; omega
        have HOUT := Lib.hid hout
        obtain ⟨mx, hmx⟩ := HX4.out
        have hsn := HSN.out w4 mx hmx
        rw [Nat.min_eq_left (show 3 ≤ line.size + 1 by omega)] at hsn
        have hll := HLL.out
        have hLn : Lib.splitB sp 0 2 line ≠ [] := HLN.out
        clear HND2 HWD2 HKK HZE hX hne hout hmx hn2 hol HNL HSN HR4 HLL hk1 hk4 hN0 hNi hN9 HPL HN HX4 hls
        simp only [show 3 - 1 = 2 from rfl] at hsn
        generalize Lib.splitB sp 0 2 line = L at *
        obtain _ | ⟨z, _ | ⟨a, _ | ⟨b2, _ | ⟨d4, L⟩⟩⟩⟩ := L
        · exact absurd rfl hLn
        · have e1 : [z].length = 1 := rfl
          rw [e1] at hsn
          clear hll
          go_wp2_with fail
          refine hsn.mono ?_
          clear hsn
          rintro e w5 ⟨rfl, hw5⟩
          have m5 : New w4 w5 := by rw [hw5]; exact (Mod.refl _ _).alloc _
          have HO5 := Lib.hid (HO4.out.mod m5 (fun e => e))
          have HL5 := Lib.hid (HL4.out.mod m5 (fun e => e))
          have HX5 := Lib.hid (HX4'.out.mod m5 (fun _ _ _ e => e))
          have HM5 : Hid (Mod (fun k => B ≤ k) w w5) := Lib.hid (HM4.out.trans (Mod.old B m5))
          have HP5 : Hid (Blk w5 w4.heap.size 9 #[.string z, .string ByteArray.empty, .string ByteArray.empty]) := Lib.hid (by rw [hw5]; exact Blk.new _ _ _)
          have HAP : Hid (∀ k, HasB x k → k ≠ w4.heap.size) := Lib.hid (fun k e => by have := HX4'.out.last.has_lt e; omega)
          have hB5 : B ≤ w5.heap.size := by have := m5.size; omega
          clear hw5 m5 HO4 HL4 HM4 HX4' HP4 HPP
          generalize w4.heap.size = sb at *
          have q0 := HP5.out.cell 0
          have q1 := HP5.out.cell 1
          have q2 := HP5.out.cell 2
          have ql := HP5.out.lt
          have c0 := HO5.out.cell 0
          have cl := HO5.out.lt
          simp only [List.getElem?_toArray, List.getElem?_cons_zero, List.getElem?_cons_succ] at q0 q1 q2 c0
          go_wp2_with fail
          go_ret
          exact HNO.out _ (by rw [HND.out]; rfl) HM5.out
        · have e1 : [z, a].length = 2 := rfl
          rw [e1] at hsn
          clear hll
          by_cases ha : a = ⟨#[]⟩
          · have ha' : (a.toList == []) = true := by rw [str_nil]; simpa using ha
            have HND3 : Hid (needQ [z, a] = none) := Lib.hid (by show (if a = ⟨#[]⟩ then none else some (a, _)) = none; rw [if_pos ha])
            clear ha
            rw [HND3.out] at HND
            go_wp2_with fail
            refine hsn.mono ?_
            clear hsn
            rintro e w5 ⟨rfl, hw5⟩
            have m5 : New w4 w5 := by rw [hw5]; exact (Mod.refl _ _).alloc _
            have HO5 := Lib.hid (HO4.out.mod m5 (fun e => e))
            have HL5 := Lib.hid (HL4.out.mod m5 (fun e => e))
            have HX5 := Lib.hid (HX4'.out.mod m5 (fun _ _ _ e => e))
            have HM5 : Hid (Mod (fun k => B ≤ k) w w5) := Lib.hid (HM4.out.trans (Mod.old B m5))
            have HP5 : Hid (Blk w5 w4.heap.size 9 #[.string z, .string a, .string ByteArray.empty]) := Lib.hid (by rw [hw5]; exact Blk.new _ _ _)
            have HAP : Hid (∀ k, HasB x k → k ≠ w4.heap.size) := Lib.hid (fun k e => by have := HX4'.out.last.has_lt e; omega)
            have hB5 : B ≤ w5.heap.size := by have := m5.size; omega
            clear hw5 m5 HO4 HL4 HM4 HX4' HP4 HPP
            generalize w4.heap.size = sb at *
            have q0 := HP5.out.cell 0
            have q1 := HP5.out.cell 1
            have q2 := HP5.out.cell 2
            have ql := HP5.out.lt
            have c0 := HO5.out.cell 0
            have cl := HO5.out.lt
            simp only [List.getElem?_toArray, List.getElem?_cons_zero, List.getElem?_cons_succ] at q0 q1 q2 c0
            go_wp2_with fail
            go_ret
            exact HNO.out _ (by rw [HND.out]; rfl) HM5.out
          · have ha' : (a.toList == []) = false := by rw [str_nil]; simpa using ha
            have HND3 : Hid (needQ [z, a] = some (a, ByteArray.empty)) := Lib.hid (by show (if a = ⟨#[]⟩ then none else some (a, _)) = _; rw [if_neg ha]; rfl)
            clear ha
            go_wp2_with fail
            refine hsn.mono ?_
            clear hsn
            rintro e w5 ⟨rfl, hw5⟩
            have m5 : New w4 w5 := by rw [hw5]; exact (Mod.refl _ _).alloc _
            have HO5 := Lib.hid (HO4.out.mod m5 (fun e => e))
            have HL5 := Lib.hid (HL4.out.mod m5 (fun e => e))
            have HX5 := Lib.hid (HX4'.out.mod m5 (fun _ _ _ e => e))
            have HM5 : Hid (Mod (fun k => B ≤ k) w w5) := Lib.hid (HM4.out.trans (Mod.old B m5))
            have HP5 : Hid (Blk w5 w4.heap.size 9 #[.string z, .string a, .string ByteArray.empty]) := Lib.hid (by rw [hw5]; exact Blk.new _ _ _)
            have HAP : Hid (∀ k, HasB x k → k ≠ w4.heap.size) := Lib.hid (fun k e => by have := HX4'.out.last.has_lt e; omega)
            have hB5 : B ≤ w5.heap.size := by have := m5.size; omega
            clear hw5 m5 HO4 HL4 HM4 HX4' HP4 HPP
            generalize w4.heap.size = sb at *
            have q0 := HP5.out.cell 0
            have q1 := HP5.out.cell 1
            have q2 := HP5.out.cell 2
            have ql := HP5.out.lt
            have c0 := HO5.out.cell 0
            have cl := HO5.out.lt
            simp only [List.getElem?_toArray, List.getElem?_cons_zero, List.getElem?_cons_succ] at q0 q1 q2 c0
            have i1 : (0 : Int) ≤ (n : Int) - 1 := by omega
            have i2 : (n : Int) - 1 < n := by omega
            have HEND : Hid (∀ w', Mod (fun k => B ≤ k) w w' → RdQAt w' B bo lb ⟨pout ++ [{ r with needs := r.needs ++ [(a, ByteArray.empty)] }], 4⟩ → RRdQ line B bo lb s w (.returned (.bool true)) w') := Lib.hid (fun w' h1 h2 =>
              .yes (s1 := ⟨pout ++ [{ r with needs := r.needs ++ [(a, ByteArray.empty)] }], 4⟩) (by
                rw [HND.out, HND3.out]
                show some (⟨onLast (fun r => { r with needs := r.needs ++ [(a, ByteArray.empty)] }) s.out, 4⟩ : RdS) = _
                rw [HOUT.out, onLast_snoc]) h1 h2)
            have hfn : x.nn ≤ 9001 := by have h1 := HX5.out.last.needs.1; have h2 := (HSM.out.each r (by rw [HOUT.out]; simp)).needs.1; omega
            have HSC : Hid (∀ W, New w5 W → W.cell? ⟨g, pre.length * 6 + 4, none⟩ = some (.slice x.na x.nn x.nc) ∧ W.cell? ⟨sb, 1, none⟩ = some (.string a) ∧ W.cell? ⟨sb, 2, none⟩ = some (.string ByteArray.empty) ∧ g < W.heap.size ∧ sb < W.heap.size) := Lib.hid (fun W h => by
              have h1 := HX5.out.mod h (fun _ _ _ e => e)
              have h2 := HP5.out.mod h (fun e => e)
              exact ⟨h1.cell (j := 4) (by decide), (h2.cell 1).trans rfl, (h2.cell 2).trans rfl, h1.tb.2.lt, h2.lt⟩)
            go_upto_region 11 with (fail)
            clear q0 q1 q2 ql c0 cl
            refine wp_region_held_ord (fun W => W.cell? ⟨g, pre.length * 6 + 4, none⟩ = some (.slice x.na x.nn x.nc) ∧ W.cell? ⟨sb, 1, none⟩ = some (.string a) ∧ W.cell? ⟨sb, 2, none⟩ = some (.string ByteArray.empty) ∧ g < W.heap.size ∧ sb < W.heap.size) [10, 12, 13] [0, 1, 2, 3, 4, 5, 6, 7, 8, 9, 10, 11, 12, 13] (by kernel_rfl) (by kernel_rfl) (fun _ _ d _ _ h => by cases d <;> exact h) ?_ (fun hHeld => ?_)
            · exact HSC.out _ (Mod.refl _ _).drew
            simp only [List.length_cons, List.length_nil, List.drop_succ_cons, List.drop_zero]
            refine heldO_take ?_ (by rfl) (by rfl) (by rfl) (fun w hSw => ?_) ?_
            rotate_left
            · (try dsimp only at hSw); go_simp; any_goals (with_reducible rfl)
            simp only [Act.put, List.setIfInBounds_toArray, List.set_cons_zero, List.set_cons_succ]
            refine heldO_take ?_ (by rfl) (by rfl) (by rfl) (fun w hSw => ?_) ?_
            rotate_left
            · (try dsimp only at hSw); go_simp; any_goals (with_reducible rfl)
            simp only [Act.put, List.setIfInBounds_toArray, List.set_cons_zero, List.set_cons_succ]
            refine heldO_take ?_ (by rfl) (by rfl) (by rfl) (fun w hSw => ?_) ?_
            rotate_left
            · (try dsimp only at hSw); go_simp; any_goals (with_reducible rfl)
            simp only [Act.put, List.setIfInBounds_toArray, List.set_cons_zero, List.set_cons_succ]
            refine heldO_take ?_ (by rfl) (by rfl) (by rfl) (fun w hSw => ?_) ?_
            rotate_left
            · (try dsimp only at hSw); go_simp; any_goals (with_reducible rfl)
            simp only [Act.put, List.setIfInBounds_toArray, List.set_cons_zero, List.set_cons_succ]
            refine heldO_take ?_ (by rfl) (by rfl) (by rfl) (fun w hSw => ?_) ?_
            rotate_left
            · (try dsimp only at hSw); go_simp; any_goals (with_reducible rfl)
            simp only [Act.put, List.setIfInBounds_toArray, List.set_cons_zero, List.set_cons_succ]
            refine heldO_take ?_ (by rfl) (by rfl) (by rfl) (fun w hSw => ?_) ?_
            rotate_left
            · (try dsimp only at hSw); go_simp; any_goals (with_reducible rfl)
            simp only [Act.put, List.setIfInBounds_toArray, List.set_cons_zero, List.set_cons_succ]
            refine heldO_take ?_ (by rfl) (by rfl) (by rfl) (fun w hSw => ?_) ?_
            rotate_left
            · (try dsimp only at hSw); go_simp; any_goals (with_reducible rfl)
            simp only [Act.put, List.setIfInBounds_toArray, List.set_cons_zero, List.set_cons_succ]
            refine heldO_take ?_ (by rfl) (by rfl) (by rfl) (fun w hSw => ?_) ?_
            rotate_left
            · (try dsimp only at hSw); go_simp; any_goals (with_reducible rfl)
            simp only [Act.put, List.setIfInBounds_toArray, List.set_cons_zero, List.set_cons_succ]
            refine heldO_take ?_ (by rfl) (by rfl) (by rfl) (fun w hSw => ?_) ?_
            rotate_left
            · (try dsimp only at hSw); go_simp; any_goals (with_reducible rfl)
            simp only [Act.put, List.setIfInBounds_toArray, List.set_cons_zero, List.set_cons_succ]
            refine heldO_take ?_ (by rfl) (by rfl) (by rfl) (fun w hSw => ?_) ?_
            rotate_left
            · (try dsimp only at hSw); go_simp; any_goals (with_reducible rfl)
            simp only [Act.put, List.setIfInBounds_toArray, List.set_cons_zero, List.set_cons_succ]
            refine heldO_step (by rfl) (by rfl) (by rfl) (fun K hK => ?_)
            go_simp
            refine (Tryz.strings_Join_none _ _ _ _).mono ?_
            rintro e w' ⟨rfl, rfl⟩
            go_wp2_with fail
            refine hK.out _ _ (HSC.out _ (Mod.refl _ _).drew) (fun hHeld => ?_)
            clear hK K hHeld
            try simp only [Act.put, List.setIfInBounds_toArray, List.set_cons_zero, List.set_cons_succ]
            refine heldO_take ?_ (by rfl) (by rfl) (by rfl) (fun w hSw => ?_) ?_
            rotate_left
            · (try dsimp only at hSw); go_simp; any_goals (with_reducible rfl)
            simp only [Act.put, List.setIfInBounds_toArray, List.set_cons_zero, List.set_cons_succ]
            refine heldO_step (by rfl) (by rfl) (by rfl) (fun K hK => ?_)
            go_simp
            have m6 : New w5 (w5.alloc (.cells #[.string a, .string ByteArray.empty] 55)).drew := ((Mod.refl _ w5).alloc _).drew
            refine hK.out _ _ (HSC.out _ m6) (fun hHeld => ?_)
            clear hK K hHeld
            try simp only [Act.put, List.setIfInBounds_toArray, List.set_cons_zero, List.set_cons_succ]
            have HX6 := Lib.hid (HX5.out.mod m6 (fun _ _ _ e => e))
            have HO6 := Lib.hid (HO5.out.mod m6 (fun e => e))
            have HL6 := Lib.hid (HL5.out.mod m6 (fun e => e))
            have HP6 := Lib.hid (HP5.out.mod m6 (fun e => e))
            have own6 := HX6.out.last.needs
            have blk6 : Blk (w5.alloc (.cells #[.string a, .string ByteArray.empty] 55)).drew w5.heap.size 55 (encL 2 pairEnc (a, ByteArray.empty)).toArray := (Blk.new w5 _ _).mod ((Mod.refl (fun _ => False) _).drew) (fun e => e)
            have HZ : Hid (B ≤ (w5.alloc (.cells #[.string a, .string ByteArray.empty] 55)).drew.heap.size) := Lib.hid (by have := m6.size; omega)
            have HM6 := Lib.hid (HM5.out.trans (Mod.old B m6))
            refine heldO_step (by rfl) (by rfl) (by rfl) (fun K hK => ?_)
            refine wp_push (.tmp 67) (.tmp 75) _ rfl 32 Tryz.underlying42 einfo_pair rfl (by exact own6) (a, ByteArray.empty) w5.heap.size rfl (by exact blk6) (fun j hj => pairEnc_one _ j hj) (by omega) (by omega) HZ.out ?_
            intro g9 cap9 w9 own9 hm9 hat9 hlt9
            have hng : ¬ blkOf x.na = some g := fun e => (HX6.out.last.needs.blk_tb e).2.ne HX6.out.tb.2 (by decide) rfl
            have hnp : ¬ blkOf x.na = some sb := fun e => HAP.out sb (by unfold HasB; simp [e]) rfl
            have hno : ¬ blkOf x.na = some bo := fun e => (HX6.out.last.needs.blk_tb e).2.ne HO6.out.tb (by decide) rfl
            have hnl : ¬ blkOf x.na = some lb := fun e => (HX6.out.last.needs.blk_tb e).2.ne HL6.out.tb (by decide) rfl
            have ho9 := HO6.out.mod hm9 hno
            have hl9 := HL6.out.mod hm9 hnl
            have hp9 := HP6.out.mod hm9 hnp
            have q9 := (hm9.cell (p := ⟨g, pre.length * 6 + 4, none⟩) HX6.out.tb.2.lt hng).trans (HX6.out.cell (j := 4) (by decide))
            have f9 := (hm9.frozen (p := ⟨g, pre.length * 6 + 4, none⟩) HX6.out.tb.2.lt hng).trans (HX6.out.row.frozen _)
            have l9 : g < w9.heap.size := Nat.lt_of_lt_of_le HX6.out.tb.2.lt hm9.size
            have hXf := HX6.out.need (a := (a, ByteArray.empty)) own9 hm9 hat9
            have HM9 : Hid (Mod (fun k => B ≤ k) w w9) := Lib.hid (HM6.out.step hm9 (fun i hi e => (HX6.out.last.needs.blk_tb e).1))
            have hSG := Mod.setCell (S := fun k => k = g) (p := ⟨g, pre.length * 6 + 4, none⟩) (Mod.refl _ w9) (.inl rfl) (.slice (some ⟨g9, 0, none⟩) (x.nn + 1) cap9)
            have HFIN : Hid (RRdQ line B bo lb s w (.returned (.bool true)) (w9.setCell ⟨g, pre.length * 6 + 4, none⟩ (.slice (some ⟨g9, 0, none⟩) (x.nn + 1) cap9))) := Lib.hid (HEND.out _ (Mod.setCell (p := ⟨g, pre.length * 6 + 4, none⟩) HM9.out (.inl HX6.out.tb.1) _) ⟨HBO.out, HBL.out, some ⟨g, 0, none⟩, n, c, ho9.mod hSG (HO6.out.tb.ne HX6.out.tb.2 (by decide)), hl9.mod hSG (HL6.out.tb.ne HX6.out.tb.2 (by decide)), .inr ⟨g, pre, _, pout, _, rfl, rfl, hXf⟩⟩)
            refine hK.out _ _ ⟨q9, (hp9.cell 1).trans rfl, (hp9.cell 2).trans rfl, l9, hp9.lt⟩ (fun hHeld => ?_)
            clear hK K hHeld
            try simp only [Act.put, List.setIfInBounds_toArray, List.set_cons_zero, List.set_cons_succ]
            refine heldO_nil ?_
            clear own6 blk6 ho9 hl9 hp9 hm9 hat9 own9 m6 HZ hXf hng hnp hno hnl HAP hSG
            go_wp2_with fail
            go_ret
            exact HFIN.out
        · have e1 : [z, a, b2].length = 3 := rfl
          rw [e1] at hsn
          clear hll
          by_cases ha : a = ⟨#[]⟩
          · have ha' : (a.toList == []) = true := by rw [str_nil]; simpa using ha
            have HND3 : Hid (needQ [z, a, b2] = none) := Lib.hid (by show (if a = ⟨#[]⟩ then none else if b2 = ⟨#[]⟩ then none else some (a, b2)) = none; rw [if_pos ha])
            clear ha
            rw [HND3.out] at HND
            go_wp2_with fail
            refine hsn.mono ?_
            clear hsn
            rintro e w5 ⟨rfl, hw5⟩
            have m5 : New w4 w5 := by rw [hw5]; exact (Mod.refl _ _).alloc _
            have HO5 := Lib.hid (HO4.out.mod m5 (fun e => e))
            have HL5 := Lib.hid (HL4.out.mod m5 (fun e => e))
            have HX5 := Lib.hid (HX4'.out.mod m5 (fun _ _ _ e => e))
            have HM5 : Hid (Mod (fun k => B ≤ k) w w5) := Lib.hid (HM4.out.trans (Mod.old B m5))
            have HP5 : Hid (Blk w5 w4.heap.size 9 #[.string z, .string a, .string b2]) := Lib.hid (by rw [hw5]; exact Blk.new _ _ _)
            have HAP : Hid (∀ k, HasB x k → k ≠ w4.heap.size) := Lib.hid (fun k e => by have := HX4'.out.last.has_lt e; omega)
            have hB5 : B ≤ w5.heap.size := by have := m5.size; omega
            clear hw5 m5 HO4 HL4 HM4 HX4' HP4 HPP
            generalize w4.heap.size = sb at *
            have q0 := HP5.out.cell 0
            have q1 := HP5.out.cell 1
            have q2 := HP5.out.cell 2
            have ql := HP5.out.lt
            have c0 := HO5.out.cell 0
            have cl := HO5.out.lt
            simp only [List.getElem?_toArray, List.getElem?_cons_zero, List.getElem?_cons_succ] at q0 q1 q2 c0
            go_wp2_with fail
            go_ret
            exact HNO.out _ (by rw [HND.out]; rfl) HM5.out
          · have ha' : (a.toList == []) = false := by rw [str_nil]; simpa using ha
            by_cases hb : b2 = ⟨#[]⟩
            · have hb' : (b2.toList == []) = true := by rw [str_nil]; simpa using hb
              have HND3 : Hid (needQ [z, a, b2] = none) := Lib.hid (by show (if a = ⟨#[]⟩ then none else if b2 = ⟨#[]⟩ then none else some (a, b2)) = none; rw [if_neg ha, if_pos hb])
              clear ha hb
              rw [HND3.out] at HND
              go_wp2_with fail
              refine hsn.mono ?_
              clear hsn
              rintro e w5 ⟨rfl, hw5⟩
              have m5 : New w4 w5 := by rw [hw5]; exact (Mod.refl _ _).alloc _
              have HO5 := Lib.hid (HO4.out.mod m5 (fun e => e))
              have HL5 := Lib.hid (HL4.out.mod m5 (fun e => e))
              have HX5 := Lib.hid (HX4'.out.mod m5 (fun _ _ _ e => e))
              have HM5 : Hid (Mod (fun k => B ≤ k) w w5) := Lib.hid (HM4.out.trans (Mod.old B m5))
              have HP5 : Hid (Blk w5 w4.heap.size 9 #[.string z, .string a, .string b2]) := Lib.hid (by rw [hw5]; exact Blk.new _ _ _)
              have HAP : Hid (∀ k, HasB x k → k ≠ w4.heap.size) := Lib.hid (fun k e => by have := HX4'.out.last.has_lt e; omega)
              have hB5 : B ≤ w5.heap.size := by have := m5.size; omega
              clear hw5 m5 HO4 HL4 HM4 HX4' HP4 HPP
              generalize w4.heap.size = sb at *
              have q0 := HP5.out.cell 0
              have q1 := HP5.out.cell 1
              have q2 := HP5.out.cell 2
              have ql := HP5.out.lt
              have c0 := HO5.out.cell 0
              have cl := HO5.out.lt
              simp only [List.getElem?_toArray, List.getElem?_cons_zero, List.getElem?_cons_succ] at q0 q1 q2 c0
              go_wp2_with fail
              go_ret
              exact HNO.out _ (by rw [HND.out]; rfl) HM5.out
            · have hb' : (b2.toList == []) = false := by rw [str_nil]; simpa using hb
              have HND3 : Hid (needQ [z, a, b2] = some (a, b2)) := Lib.hid (by show (if a = ⟨#[]⟩ then none else if b2 = ⟨#[]⟩ then none else some (a, b2)) = _; rw [if_neg ha, if_neg hb])
              clear ha hb
              go_wp2_with fail
              refine hsn.mono ?_
              clear hsn
              rintro e w5 ⟨rfl, hw5⟩
              have m5 : New w4 w5 := by rw [hw5]; exact (Mod.refl _ _).alloc _
              have HO5 := Lib.hid (HO4.out.mod m5 (fun e => e))
              have HL5 := Lib.hid (HL4.out.mod m5 (fun e => e))
              have HX5 := Lib.hid (HX4'.out.mod m5 (fun _ _ _ e => e))
              have HM5 : Hid (Mod (fun k => B ≤ k) w w5) := Lib.hid (HM4.out.trans (Mod.old B m5))
              have HP5 : Hid (Blk w5 w4.heap.size 9 #[.string z, .string a, .string b2]) := Lib.hid (by rw [hw5]; exact Blk.new _ _ _)
              have HAP : Hid (∀ k, HasB x k → k ≠ w4.heap.size) := Lib.hid (fun k e => by have := HX4'.out.last.has_lt e; omega)
              have hB5 : B ≤ w5.heap.size := by have := m5.size; omega
              clear hw5 m5 HO4 HL4 HM4 HX4' HP4 HPP
              generalize w4.heap.size = sb at *
              have q0 := HP5.out.cell 0
              have q1 := HP5.out.cell 1
              have q2 := HP5.out.cell 2
              have ql := HP5.out.lt
              have c0 := HO5.out.cell 0
              have cl := HO5.out.lt
              simp only [List.getElem?_toArray, List.getElem?_cons_zero, List.getElem?_cons_succ] at q0 q1 q2 c0
              have i1 : (0 : Int) ≤ (n : Int) - 1 := by omega
              have i2 : (n : Int) - 1 < n := by omega
              have HEND : Hid (∀ w', Mod (fun k => B ≤ k) w w' → RdQAt w' B bo lb ⟨pout ++ [{ r with needs := r.needs ++ [(a, b2)] }], 4⟩ → RRdQ line B bo lb s w (.returned (.bool true)) w') := Lib.hid (fun w' h1 h2 =>
                .yes (s1 := ⟨pout ++ [{ r with needs := r.needs ++ [(a, b2)] }], 4⟩) (by
                  rw [HND.out, HND3.out]
                  show some (⟨onLast (fun r => { r with needs := r.needs ++ [(a, b2)] }) s.out, 4⟩ : RdS) = _
                  rw [HOUT.out, onLast_snoc]) h1 h2)
              have hfn : x.nn ≤ 9001 := by have h1 := HX5.out.last.needs.1; have h2 := (HSM.out.each r (by rw [HOUT.out]; simp)).needs.1; omega
              have HSC : Hid (∀ W, New w5 W → W.cell? ⟨g, pre.length * 6 + 4, none⟩ = some (.slice x.na x.nn x.nc) ∧ W.cell? ⟨sb, 1, none⟩ = some (.string a) ∧ W.cell? ⟨sb, 2, none⟩ = some (.string b2) ∧ g < W.heap.size ∧ sb < W.heap.size) := Lib.hid (fun W h => by
                have h1 := HX5.out.mod h (fun _ _ _ e => e)
                have h2 := HP5.out.mod h (fun e => e)
                exact ⟨h1.cell (j := 4) (by decide), (h2.cell 1).trans rfl, (h2.cell 2).trans rfl, h1.tb.2.lt, h2.lt⟩)
              go_upto_region 11 with (fail)
              clear q0 q1 q2 ql c0 cl
              refine wp_region_held_ord (fun W => W.cell? ⟨g, pre.length * 6 + 4, none⟩ = some (.slice x.na x.nn x.nc) ∧ W.cell? ⟨sb, 1, none⟩ = some (.string a) ∧ W.cell? ⟨sb, 2, none⟩ = some (.string b2) ∧ g < W.heap.size ∧ sb < W.heap.size) [10, 12, 13] [0, 1, 2, 3, 4, 5, 6, 7, 8, 9, 10, 11, 12, 13] (by kernel_rfl) (by kernel_rfl) (fun _ _ d _ _ h => by cases d <;> exact h) ?_ (fun hHeld => ?_)
              · exact HSC.out _ (Mod.refl _ _).drew
              simp only [List.length_cons, List.length_nil, List.drop_succ_cons, List.drop_zero]
              refine heldO_take ?_ (by rfl) (by rfl) (by rfl) (fun w hSw => ?_) ?_
              rotate_left
              · (try dsimp only at hSw); go_simp; any_goals (with_reducible rfl)
              simp only [Act.put, List.setIfInBounds_toArray, List.set_cons_zero, List.set_cons_succ]
              refine heldO_take ?_ (by rfl) (by rfl) (by rfl) (fun w hSw => ?_) ?_
              rotate_left
              · (try dsimp only at hSw); go_simp; any_goals (with_reducible rfl)
              simp only [Act.put, List.setIfInBounds_toArray, List.set_cons_zero, List.set_cons_succ]
              refine heldO_take ?_ (by rfl) (by rfl) (by rfl) (fun w hSw => ?_) ?_
              rotate_left
              · (try dsimp only at hSw); go_simp; any_goals (with_reducible rfl)
              simp only [Act.put, List.setIfInBounds_toArray, List.set_cons_zero, List.set_cons_succ]
              refine heldO_take ?_ (by rfl) (by rfl) (by rfl) (fun w hSw => ?_) ?_
              rotate_left
              · (try dsimp only at hSw); go_simp; any_goals (with_reducible rfl)
              simp only [Act.put, List.setIfInBounds_toArray, List.set_cons_zero, List.set_cons_succ]
              refine heldO_take ?_ (by rfl) (by rfl) (by rfl) (fun w hSw => ?_) ?_
              rotate_left
              · (try dsimp only at hSw); go_simp; any_goals (with_reducible rfl)
              simp only [Act.put, List.setIfInBounds_toArray, List.set_cons_zero, List.set_cons_succ]
              refine heldO_take ?_ (by rfl) (by rfl) (by rfl) (fun w hSw => ?_) ?_
              rotate_left
              · (try dsimp only at hSw); go_simp; any_goals (with_reducible rfl)
              simp only [Act.put, List.setIfInBounds_toArray, List.set_cons_zero, List.set_cons_succ]
              refine heldO_take ?_ (by rfl) (by rfl) (by rfl) (fun w hSw => ?_) ?_
              rotate_left
              · (try dsimp only at hSw); go_simp; any_goals (with_reducible rfl)
              simp only [Act.put, List.setIfInBounds_toArray, List.set_cons_zero, List.set_cons_succ]
              refine heldO_take ?_ (by rfl) (by rfl) (by rfl) (fun w hSw => ?_) ?_
              rotate_left
              · (try dsimp only at hSw); go_simp; any_goals (with_reducible rfl)
              simp only [Act.put, List.setIfInBounds_toArray, List.set_cons_zero, List.set_cons_succ]
              refine heldO_take ?_ (by rfl) (by rfl) (by rfl) (fun w hSw => ?_) ?_
              rotate_left
              · (try dsimp only at hSw); go_simp; any_goals (with_reducible rfl)
              simp only [Act.put, List.setIfInBounds_toArray, List.set_cons_zero, List.set_cons_succ]
              refine heldO_take ?_ (by rfl) (by rfl) (by rfl) (fun w hSw => ?_) ?_
              rotate_left
              · (try dsimp only at hSw); go_simp; any_goals (with_reducible rfl)
              simp only [Act.put, List.setIfInBounds_toArray, List.set_cons_zero, List.set_cons_succ]
              refine heldO_step (by rfl) (by rfl) (by rfl) (fun K hK => ?_)
              go_simp
              refine (Any.strings_Join_one Tryz.lays156 Tryz.Builder_Extra_156 _ _ _ b2 _ _ (HSC.out _ (Mod.refl _ _).drew).2.2.1).mono ?_
              rintro e w' ⟨rfl, rfl⟩
              go_wp2_with fail
              refine hK.out _ _ (HSC.out _ (Mod.refl _ _).drew) (fun hHeld => ?_)
              clear hK K hHeld
              try simp only [Act.put, List.setIfInBounds_toArray, List.set_cons_zero, List.set_cons_succ]
              refine heldO_take ?_ (by rfl) (by rfl) (by rfl) (fun w hSw => ?_) ?_
              rotate_left
              · (try dsimp only at hSw); go_simp; any_goals (with_reducible rfl)
              simp only [Act.put, List.setIfInBounds_toArray, List.set_cons_zero, List.set_cons_succ]
              refine heldO_step (by rfl) (by rfl) (by rfl) (fun K hK => ?_)
              go_simp
              have m6 : New w5 (w5.alloc (.cells #[.string a, .string b2] 55)).drew := ((Mod.refl _ w5).alloc _).drew
              refine hK.out _ _ (HSC.out _ m6) (fun hHeld => ?_)
              clear hK K hHeld
              try simp only [Act.put, List.setIfInBounds_toArray, List.set_cons_zero, List.set_cons_succ]
              have HX6 := Lib.hid (HX5.out.mod m6 (fun _ _ _ e => e))
              have HO6 := Lib.hid (HO5.out.mod m6 (fun e => e))
              have HL6 := Lib.hid (HL5.out.mod m6 (fun e => e))
              have HP6 := Lib.hid (HP5.out.mod m6 (fun e => e))
              have own6 := HX6.out.last.needs
              have blk6 : Blk (w5.alloc (.cells #[.string a, .string b2] 55)).drew w5.heap.size 55 (encL 2 pairEnc (a, b2)).toArray := (Blk.new w5 _ _).mod ((Mod.refl (fun _ => False) _).drew) (fun e => e)
              have HZ : Hid (B ≤ (w5.alloc (.cells #[.string a, .string b2] 55)).drew.heap.size) := Lib.hid (by have := m6.size; omega)
              have HM6 := Lib.hid (HM5.out.trans (Mod.old B m6))
              refine heldO_step (by rfl) (by rfl) (by rfl) (fun K hK => ?_)
              refine wp_push (.tmp 67) (.tmp 75) _ rfl 32 Tryz.underlying42 einfo_pair rfl (by exact own6) (a, b2) w5.heap.size rfl (by exact blk6) (fun j hj => pairEnc_one _ j hj) (by omega) (by omega) HZ.out ?_
              intro g9 cap9 w9 own9 hm9 hat9 hlt9
              have hng : ¬ blkOf x.na = some g := fun e => (HX6.out.last.needs.blk_tb e).2.ne HX6.out.tb.2 (by decide) rfl
              have hnp : ¬ blkOf x.na = some sb := fun e => HAP.out sb (by unfold HasB; simp [e]) rfl
              have hno : ¬ blkOf x.na = some bo := fun e => (HX6.out.last.needs.blk_tb e).2.ne HO6.out.tb (by decide) rfl
              have hnl : ¬ blkOf x.na = some lb := fun e => (HX6.out.last.needs.blk_tb e).2.ne HL6.out.tb (by decide) rfl
              have ho9 := HO6.out.mod hm9 hno
              have hl9 := HL6.out.mod hm9 hnl
              have hp9 := HP6.out.mod hm9 hnp
              have q9 := (hm9.cell (p := ⟨g, pre.length * 6 + 4, none⟩) HX6.out.tb.2.lt hng).trans (HX6.out.cell (j := 4) (by decide))
              have f9 := (hm9.frozen (p := ⟨g, pre.length * 6 + 4, none⟩) HX6.out.tb.2.lt hng).trans (HX6.out.row.frozen _)
              have l9 : g < w9.heap.size := Nat.lt_of_lt_of_le HX6.out.tb.2.lt hm9.size
              have hXf := HX6.out.need (a := (a, b2)) own9 hm9 hat9
              have HM9 : Hid (Mod (fun k => B ≤ k) w w9) := Lib.hid (HM6.out.step hm9 (fun i hi e => (HX6.out.last.needs.blk_tb e).1))
              have hSG := Mod.setCell (S := fun k => k = g) (p := ⟨g, pre.length * 6 + 4, none⟩) (Mod.refl _ w9) (.inl rfl) (.slice (some ⟨g9, 0, none⟩) (x.nn + 1) cap9)
              have HFIN : Hid (RRdQ line B bo lb s w (.returned (.bool true)) (w9.setCell ⟨g, pre.length * 6 + 4, none⟩ (.slice (some ⟨g9, 0, none⟩) (x.nn + 1) cap9))) := Lib.hid (HEND.out _ (Mod.setCell (p := ⟨g, pre.length * 6 + 4, none⟩) HM9.out (.inl HX6.out.tb.1) _) ⟨HBO.out, HBL.out, some ⟨g, 0, none⟩, n, c, ho9.mod hSG (HO6.out.tb.ne HX6.out.tb.2 (by decide)), hl9.mod hSG (HL6.out.tb.ne HX6.out.tb.2 (by decide)), .inr ⟨g, pre, _, pout, _, rfl, rfl, hXf⟩⟩)
              refine hK.out _ _ ⟨q9, (hp9.cell 1).trans rfl, (hp9.cell 2).trans rfl, l9, hp9.lt⟩ (fun hHeld => ?_)
              clear hK K hHeld
              try simp only [Act.put, List.setIfInBounds_toArray, List.set_cons_zero, List.set_cons_succ]
              refine heldO_nil ?_
              clear own6 blk6 ho9 hl9 hp9 hm9 hat9 own9 m6 HZ hXf hng hnp hno hnl HAP hSG
              go_wp2_with fail
              go_ret
              exact HFIN.out
        · simp at hll
      · have HWD := Lib.hid (HWD2.out k4)
        have k4b : (ki == 3) = false := by have := HKI.out; simp; omega
        have hct := Tryz.slices_Contains_string pb 0 N N (word :: P) ⟨#[]⟩ w4 (by have := HN.out; omega) (by omega) (fun j hj => by rw [Nat.zero_add]; exact strs_at HP4.out j hj)
        rw [List.take_of_length_le (by have := HN.out; omega)] at hct
        obtain ⟨cs, hcs⟩ : ∃ q, Lib.containsS (word :: P) ⟨#[]⟩ = q := ⟨_, rfl⟩
        rw [hcs] at hct HWD
        clear hcs HND2 HWD2 HNL HSN HLN HLL HX4
        cases cs
        rotate_left
        · go_wp2_with fail
          refine hct.mono ?_
          clear hct
          rintro e w5 ⟨rfl, rfl⟩
          go_wp2_with fail
          go_ret
          exact HNO.out _ (by rw [HWD.out]; rfl) HM4.out
        have HW : Hid (stepR s line = stepW s kd P) := Lib.hid (by rw [HWD.out]; rfl)
        clear HWD
        obtain _ | ⟨a, _ | ⟨b2, _ | ⟨c3, _ | ⟨d4, P⟩⟩⟩⟩ := P
        · obtain rfl : 1 = N := HN.out
          obtain rfl | rfl | rfl : kd = 1 ∨ kd = 2 ∨ kd = 3 := by omega
          · obtain rfl : ki = 0 := by have := HKI.out; omega
            go_wp2_with fail
            refine hct.mono ?_
            clear hct
            rintro e w5 ⟨rfl, rfl⟩
            go_wp2_with fail
            go_ret
            exact HNO.out _ (by rw [HW.out]; rfl) HM4.out
          · obtain rfl : ki = 1 := by have := HKI.out; omega
            go_wp2_with fail
            refine hct.mono ?_
            clear hct
            rintro e w5 ⟨rfl, rfl⟩
            go_wp2_with fail
            go_ret
            exact HNO.out _ (by rw [HW.out]; rfl) HM4.out
          · obtain rfl : ki = 2 := by have := HKI.out; omega
            go_wp2_with fail
            refine hct.mono ?_
            clear hct
            rintro e w5 ⟨rfl, rfl⟩
            go_wp2_with fail
            go_ret
            exact HNO.out _ (by rw [HW.out]; rfl) HM4.out
        · obtain rfl : 2 = N := HN.out
          obtain rfl | rfl | rfl : kd = 1 ∨ kd = 2 ∨ kd = 3 := by omega
          · obtain rfl : ki = 0 := by have := HKI.out; omega
            go_wp2_with fail
            refine hct.mono ?_
            clear hct
            rintro e w5 ⟨rfl, rfl⟩
            go_wp2_with fail
            go_ret
            exact HNO.out _ (by rw [HW.out]; rfl) HM4.out
          · obtain rfl : ki = 1 := by have := HKI.out; omega
            have hne : s.out ≠ [] := fun e => (HKK.out (by omega)).2 (HZE.out.2 e)
            obtain ⟨g, pre, x, pout, r, hA, hout, hX⟩ := HR0.out.last hne
            subst hA
            have HX4' := Lib.hid (hX.mod HW4.out (fun k _ ht e => by
              rcases ht with ht | ht | ht
              · exact ht.ne HLT.out (by decide) e
              · exact ht.ne HLT.out (by decide) e
              · exact ht.ne HLT.out (by decide) e))
            obtain ⟨hn1, hn2⟩ := hX.num
            have hpl : pre.length ≤ 9001 := by rw [hout] at hol; simp at hol; omega
            have HOUT := Lib.hid hout
            have HP5 : Hid (Blk w4 pb 9 #[.string word, .string a]) := Lib.hid HP4.out
            have HAP : Hid (∀ k, HasB x k → k ≠ pb) := Lib.hid (fun k e he => by have := hX.last.has_lt e; have := HPP.out; omega)
            clear hX hne hout hn2 hol HR4
            have HEND : Hid (∀ w', Mod (fun k => B ≤ k) w w' → RdQAt w' B bo lb ⟨pout ++ [{ r with hosts := r.hosts ++ [a] }], 2⟩ → RRdQ line B bo lb s w (.returned (.bool true)) w') := Lib.hid (fun w' h1 h2 =>
              .yes (s1 := ⟨pout ++ [{ r with hosts := r.hosts ++ [a] }], 2⟩) (by
                rw [HW.out]
                show some (⟨onLast (fun r => { r with hosts := r.hosts ++ [a] }) s.out, 2⟩ : RdS) = _
                rw [HOUT.out, onLast_snoc]) h1 h2)
            have hfn : x.hn ≤ 9001 := by have h1 := HX4'.out.last.hosts.1; have h2 := (HSM.out.each r (by rw [HOUT.out]; simp)).hosts.1; omega
            have HSC : Hid (∀ W, New w4 W → W.cell? ⟨g, pre.length * 6 + 1, none⟩ = some (.slice x.ha x.hn x.hc) ∧ W.cell? ⟨pb, 1, none⟩ = some (.string a) ∧ g < W.heap.size ∧ pb < W.heap.size) := Lib.hid (fun W h => by
              have h1 := HX4'.out.mod h (fun _ _ _ e => e)
              have h2 := HP5.out.mod h (fun e => e)
              exact ⟨h1.cell (j := 1) (by decide), (h2.cell 1).trans rfl, h1.tb.2.lt, h2.lt⟩)
            go_wp2_with fail
            refine hct.mono ?_
            clear hct
            rintro e w5 ⟨rfl, rfl⟩
            have c0 := HO4.out.cell 0
            have cl := HO4.out.lt
            simp only [List.getElem?_toArray, List.getElem?_cons_zero, List.getElem?_cons_succ] at c0
            have i1 : (0 : Int) ≤ (n : Int) - 1 := by omega
            have i2 : (n : Int) - 1 < n := by omega
            go_upto_region 20 with (fail)
            clear c0 cl
            refine wp_region_held_ord (fun W => W.cell? ⟨g, pre.length * 6 + 1, none⟩ = some (.slice x.ha x.hn x.hc) ∧ W.cell? ⟨pb, 1, none⟩ = some (.string a) ∧ g < W.heap.size ∧ pb < W.heap.size) [8, 9] [0, 1, 2, 3, 4, 5, 6, 7, 8, 9] (by kernel_rfl) (by kernel_rfl) (fun _ _ d _ _ h => by cases d <;> exact h) ?_ (fun hHeld => ?_)
            · exact HSC.out _ (Mod.refl _ _).drew
            simp only [List.length_cons, List.length_nil, List.drop_succ_cons, List.drop_zero]
            refine heldO_take ?_ (by rfl) (by rfl) (by rfl) (fun w hSw => ?_) ?_
            rotate_left
            · (try dsimp only at hSw); go_simp; any_goals (with_reducible rfl)
            simp only [Act.put, List.setIfInBounds_toArray, List.set_cons_zero, List.set_cons_succ]
            refine heldO_take ?_ (by rfl) (by rfl) (by rfl) (fun w hSw => ?_) ?_
            rotate_left
            · (try dsimp only at hSw); go_simp; any_goals (with_reducible rfl)
            simp only [Act.put, List.setIfInBounds_toArray, List.set_cons_zero, List.set_cons_succ]
            refine heldO_take ?_ (by rfl) (by rfl) (by rfl) (fun w hSw => ?_) ?_
            rotate_left
            · (try dsimp only at hSw); go_simp; any_goals (with_reducible rfl)
            simp only [Act.put, List.setIfInBounds_toArray, List.set_cons_zero, List.set_cons_succ]
            refine heldO_take ?_ (by rfl) (by rfl) (by rfl) (fun w hSw => ?_) ?_
            rotate_left
            · (try dsimp only at hSw); go_simp; any_goals (with_reducible rfl)
            simp only [Act.put, List.setIfInBounds_toArray, List.set_cons_zero, List.set_cons_succ]
            refine heldO_take ?_ (by rfl) (by rfl) (by rfl) (fun w hSw => ?_) ?_
            rotate_left
            · (try dsimp only at hSw); go_simp; any_goals (with_reducible rfl)
            simp only [Act.put, List.setIfInBounds_toArray, List.set_cons_zero, List.set_cons_succ]
            refine heldO_take ?_ (by rfl) (by rfl) (by rfl) (fun w hSw => ?_) ?_
            rotate_left
            · (try dsimp only at hSw); go_simp; any_goals (with_reducible rfl)
            simp only [Act.put, List.setIfInBounds_toArray, List.set_cons_zero, List.set_cons_succ]
            refine heldO_take ?_ (by rfl) (by rfl) (by rfl) (fun w hSw => ?_) ?_
            rotate_left
            · (try dsimp only at hSw); go_simp; any_goals (with_reducible rfl)
            simp only [Act.put, List.setIfInBounds_toArray, List.set_cons_zero, List.set_cons_succ]
            refine heldO_take ?_ (by rfl) (by rfl) (by rfl) (fun w hSw => ?_) ?_
            rotate_left
            · (try dsimp only at hSw); go_simp; any_goals (with_reducible rfl)
            simp only [Act.put, List.setIfInBounds_toArray, List.set_cons_zero, List.set_cons_succ]
            refine heldO_step (by rfl) (by rfl) (by rfl) (fun K hK => ?_)
            go_simp
            rename World => w5
            have m6 : New w5 (w5.alloc (.cells #[.string a] 9)).drew := ((Mod.refl _ w5).alloc _).drew
            refine hK.out _ _ (HSC.out _ m6) (fun hHeld => ?_)
            clear hK K hHeld
            try simp only [Act.put, List.setIfInBounds_toArray, List.set_cons_zero, List.set_cons_succ]
            have HX6 := Lib.hid (HX4'.out.mod m6 (fun _ _ _ e => e))
            have HO6 := Lib.hid (HO4.out.mod m6 (fun e => e))
            have HL6 := Lib.hid (HL4.out.mod m6 (fun e => e))
            have HP6 := Lib.hid (HP5.out.mod m6 (fun e => e))
            have own6 := HX6.out.last.hosts
            have blk6 : Blk (w5.alloc (.cells #[.string a] 9)).drew w5.heap.size 9 (encL 1 sEnc a).toArray := (Blk.new w5 _ _).mod ((Mod.refl (fun _ => False) _).drew) (fun e => e)
            have HZ : Hid (B ≤ (w5.alloc (.cells #[.string a] 9)).drew.heap.size) := Lib.hid (by have := m6.size; omega)
            have HM6 := Lib.hid (HM4.out.trans (Mod.old B m6))
            refine heldO_step (by rfl) (by rfl) (by rfl) (fun K hK => ?_)
            refine wp_push (.tmp 124) (.tmp 128) _ rfl 16 Tryz.underlying41 einfo_str rfl (by exact own6) a w5.heap.size rfl (by exact blk6) (fun j hj => sEnc_one _ j hj) (by omega) (by omega) HZ.out ?_
            intro g9 cap9 w9 own9 hm9 hat9 hlt9
            have hng : ¬ blkOf x.ha = some g := fun e => (HX6.out.last.hosts.blk_tb e).2.ne HX6.out.tb.2 (by decide) rfl
            have hnp : ¬ blkOf x.ha = some pb := fun e => HAP.out pb (by unfold HasB; simp [e]) rfl
            have hno : ¬ blkOf x.ha = some bo := fun e => (HX6.out.last.hosts.blk_tb e).2.ne HO6.out.tb (by decide) rfl
            have hnl : ¬ blkOf x.ha = some lb := fun e => (HX6.out.last.hosts.blk_tb e).2.ne HL6.out.tb (by decide) rfl
            have ho9 := HO6.out.mod hm9 hno
            have hl9 := HL6.out.mod hm9 hnl
            have hp9 := HP6.out.mod hm9 hnp
            have q9 := (hm9.cell (p := ⟨g, pre.length * 6 + 1, none⟩) HX6.out.tb.2.lt hng).trans (HX6.out.cell (j := 1) (by decide))
            have f9 := (hm9.frozen (p := ⟨g, pre.length * 6 + 1, none⟩) HX6.out.tb.2.lt hng).trans (HX6.out.row.frozen _)
            have l9 : g < w9.heap.size := Nat.lt_of_lt_of_le HX6.out.tb.2.lt hm9.size
            have hXf := HX6.out.host (a := a) own9 hm9 hat9
            have HM9 : Hid (Mod (fun k => B ≤ k) w w9) := Lib.hid (HM6.out.step hm9 (fun i hi e => (HX6.out.last.hosts.blk_tb e).1))
            have hSG := Mod.setCell (S := fun k => k = g) (p := ⟨g, pre.length * 6 + 1, none⟩) (Mod.refl _ w9) (.inl rfl) (.slice (some ⟨g9, 0, none⟩) (x.hn + 1) cap9)
            have HFIN : Hid (RRdQ line B bo lb s w (.returned (.bool true)) (w9.setCell ⟨g, pre.length * 6 + 1, none⟩ (.slice (some ⟨g9, 0, none⟩) (x.hn + 1) cap9))) := Lib.hid (HEND.out _ (Mod.setCell (p := ⟨g, pre.length * 6 + 1, none⟩) HM9.out (.inl HX6.out.tb.1) _) ⟨HBO.out, HBL.out, some ⟨g, 0, none⟩, n, c, ho9.mod hSG (HO6.out.tb.ne HX6.out.tb.2 (by decide)), hl9.mod hSG (HL6.out.tb.ne HX6.out.tb.2 (by decide)), .inr ⟨g, pre, _, pout, _, rfl, rfl, hXf⟩⟩)
            refine hK.out _ _ ⟨q9, (hp9.cell 1).trans rfl, l9, hp9.lt⟩ (fun hHeld => ?_)
            clear hK K hHeld
            try simp only [Act.put, List.setIfInBounds_toArray, List.set_cons_zero, List.set_cons_succ]
            refine heldO_nil ?_
            clear own6 blk6 ho9 hl9 hp9 hm9 hat9 own9 m6 HZ hXf hng hnp hno hnl HAP hSG
            go_wp2_with fail
            go_ret
            exact HFIN.out
          · obtain rfl : ki = 2 := by have := HKI.out; omega
            have hne : s.out ≠ [] := fun e => (HKK.out (by omega)).2 (HZE.out.2 e)
            obtain ⟨g, pre, x, pout, r, hA, hout, hX⟩ := HR0.out.last hne
            subst hA
            have HX4' := Lib.hid (hX.mod HW4.out (fun k _ ht e => by
              rcases ht with ht | ht | ht
              · exact ht.ne HLT.out (by decide) e
              · exact ht.ne HLT.out (by decide) e
              · exact ht.ne HLT.out (by decide) e))
            obtain ⟨hn1, hn2⟩ := hX.num
            have hpl : pre.length ≤ 9001 := by rw [hout] at hol; simp at hol; omega
            have HOUT := Lib.hid hout
            have HP5 : Hid (Blk w4 pb 9 #[.string word, .string a]) := Lib.hid HP4.out
            have HAP : Hid (∀ k, HasB x k → k ≠ pb) := Lib.hid (fun k e he => by have := hX.last.has_lt e; have := HPP.out; omega)
            clear hX hne hout hn2 hol HR4
            have HEND : Hid (∀ w', Mod (fun k => B ≤ k) w w' → RdQAt w' B bo lb ⟨pout ++ [{ r with methods := r.methods ++ [a] }], 3⟩ → RRdQ line B bo lb s w (.returned (.bool true)) w') := Lib.hid (fun w' h1 h2 =>
              .yes (s1 := ⟨pout ++ [{ r with methods := r.methods ++ [a] }], 3⟩) (by
                rw [HW.out]
                show some (⟨onLast (fun r => { r with methods := r.methods ++ [a] }) s.out, 3⟩ : RdS) = _
                rw [HOUT.out, onLast_snoc]) h1 h2)
            have hfn : x.mn ≤ 9001 := by have h1 := HX4'.out.last.methods.1; have h2 := (HSM.out.each r (by rw [HOUT.out]; simp)).methods.1; omega
            have HSC : Hid (∀ W, New w4 W → W.cell? ⟨g, pre.length * 6 + 3, none⟩ = some (.slice x.ma x.mn x.mc) ∧ W.cell? ⟨pb, 1, none⟩ = some (.string a) ∧ g < W.heap.size ∧ pb < W.heap.size) := Lib.hid (fun W h => by
              have h1 := HX4'.out.mod h (fun _ _ _ e => e)
              have h2 := HP5.out.mod h (fun e => e)
              exact ⟨h1.cell (j := 3) (by decide), (h2.cell 1).trans rfl, h1.tb.2.lt, h2.lt⟩)
            go_wp2_with fail
            refine hct.mono ?_
            clear hct
            rintro e w5 ⟨rfl, rfl⟩
            have c0 := HO4.out.cell 0
            have cl := HO4.out.lt
            simp only [List.getElem?_toArray, List.getElem?_cons_zero, List.getElem?_cons_succ] at c0
            have i1 : (0 : Int) ≤ (n : Int) - 1 := by omega
            have i2 : (n : Int) - 1 < n := by omega
            go_upto_region 23 with (fail)
            clear c0 cl
            refine wp_region_held_ord (fun W => W.cell? ⟨g, pre.length * 6 + 3, none⟩ = some (.slice x.ma x.mn x.mc) ∧ W.cell? ⟨pb, 1, none⟩ = some (.string a) ∧ g < W.heap.size ∧ pb < W.heap.size) [8, 9] [0, 1, 2, 3, 4, 5, 6, 7, 8, 9] (by kernel_rfl) (by kernel_rfl) (fun _ _ d _ _ h => by cases d <;> exact h) ?_ (fun hHeld => ?_)
            · exact HSC.out _ (Mod.refl _ _).drew
            simp only [List.length_cons, List.length_nil, List.drop_succ_cons, List.drop_zero]
            refine heldO_take ?_ (by rfl) (by rfl) (by rfl) (fun w hSw => ?_) ?_
            rotate_left
            · (try dsimp only at hSw); go_simp; any_goals (with_reducible rfl)
            simp only [Act.put, List.setIfInBounds_toArray, List.set_cons_zero, List.set_cons_succ]
            refine heldO_take ?_ (by rfl) (by rfl) (by rfl) (fun w hSw => ?_) ?_
            rotate_left
            · (try dsimp only at hSw); go_simp; any_goals (with_reducible rfl)
            simp only [Act.put, List.setIfInBounds_toArray, List.set_cons_zero, List.set_cons_succ]
            refine heldO_take ?_ (by rfl) (by rfl) (by rfl) (fun w hSw => ?_) ?_
            rotate_left
            · (try dsimp only at hSw); go_simp; any_goals (with_reducible rfl)
            simp only [Act.put, List.setIfInBounds_toArray, List.set_cons_zero, List.set_cons_succ]
            refine heldO_take ?_ (by rfl) (by rfl) (by rfl) (fun w hSw => ?_) ?_
            rotate_left
            · (try dsimp only at hSw); go_simp; any_goals (with_reducible rfl)
            simp only [Act.put, List.setIfInBounds_toArray, List.set_cons_zero, List.set_cons_succ]
            refine heldO_take ?_ (by rfl) (by rfl) (by rfl) (fun w hSw => ?_) ?_
            rotate_left
            · (try dsimp only at hSw); go_simp; any_goals (with_reducible rfl)
            simp only [Act.put, List.setIfInBounds_toArray, List.set_cons_zero, List.set_cons_succ]
            refine heldO_take ?_ (by rfl) (by rfl) (by rfl) (fun w hSw => ?_) ?_
            rotate_left
            · (try dsimp only at hSw); go_simp; any_goals (with_reducible rfl)
            simp only [Act.put, List.setIfInBounds_toArray, List.set_cons_zero, List.set_cons_succ]
            refine heldO_take ?_ (by rfl) (by rfl) (by rfl) (fun w hSw => ?_) ?_
            rotate_left
            · (try dsimp only at hSw); go_simp; any_goals (with_reducible rfl)
            simp only [Act.put, List.setIfInBounds_toArray, List.set_cons_zero, List.set_cons_succ]
            refine heldO_take ?_ (by rfl) (by rfl) (by rfl) (fun w hSw => ?_) ?_
            rotate_left
            · (try dsimp only at hSw); go_simp; any_goals (with_reducible rfl)
            simp only [Act.put, List.setIfInBounds_toArray, List.set_cons_zero, List.set_cons_succ]
            refine heldO_step (by rfl) (by rfl) (by rfl) (fun K hK => ?_)
            go_simp
            rename World => w5
            have m6 : New w5 (w5.alloc (.cells #[.string a] 9)).drew := ((Mod.refl _ w5).alloc _).drew
            refine hK.out _ _ (HSC.out _ m6) (fun hHeld => ?_)
            clear hK K hHeld
            try simp only [Act.put, List.setIfInBounds_toArray, List.set_cons_zero, List.set_cons_succ]
            have HX6 := Lib.hid (HX4'.out.mod m6 (fun _ _ _ e => e))
            have HO6 := Lib.hid (HO4.out.mod m6 (fun e => e))
            have HL6 := Lib.hid (HL4.out.mod m6 (fun e => e))
            have HP6 := Lib.hid (HP5.out.mod m6 (fun e => e))
            have own6 := HX6.out.last.methods
            have blk6 : Blk (w5.alloc (.cells #[.string a] 9)).drew w5.heap.size 9 (encL 1 sEnc a).toArray := (Blk.new w5 _ _).mod ((Mod.refl (fun _ => False) _).drew) (fun e => e)
            have HZ : Hid (B ≤ (w5.alloc (.cells #[.string a] 9)).drew.heap.size) := Lib.hid (by have := m6.size; omega)
            have HM6 := Lib.hid (HM4.out.trans (Mod.old B m6))
            refine heldO_step (by rfl) (by rfl) (by rfl) (fun K hK => ?_)
            refine wp_push (.tmp 149) (.tmp 153) _ rfl 16 Tryz.underlying41 einfo_str rfl (by exact own6) a w5.heap.size rfl (by exact blk6) (fun j hj => sEnc_one _ j hj) (by omega) (by omega) HZ.out ?_
            intro g9 cap9 w9 own9 hm9 hat9 hlt9
            have hng : ¬ blkOf x.ma = some g := fun e => (HX6.out.last.methods.blk_tb e).2.ne HX6.out.tb.2 (by decide) rfl
            have hnp : ¬ blkOf x.ma = some pb := fun e => HAP.out pb (by unfold HasB; simp [e]) rfl
            have hno : ¬ blkOf x.ma = some bo := fun e => (HX6.out.last.methods.blk_tb e).2.ne HO6.out.tb (by decide) rfl
            have hnl : ¬ blkOf x.ma = some lb := fun e => (HX6.out.last.methods.blk_tb e).2.ne HL6.out.tb (by decide) rfl
            have ho9 := HO6.out.mod hm9 hno
            have hl9 := HL6.out.mod hm9 hnl
            have hp9 := HP6.out.mod hm9 hnp
            have q9 := (hm9.cell (p := ⟨g, pre.length * 6 + 3, none⟩) HX6.out.tb.2.lt hng).trans (HX6.out.cell (j := 3) (by decide))
            have f9 := (hm9.frozen (p := ⟨g, pre.length * 6 + 3, none⟩) HX6.out.tb.2.lt hng).trans (HX6.out.row.frozen _)
            have l9 : g < w9.heap.size := Nat.lt_of_lt_of_le HX6.out.tb.2.lt hm9.size
            have hXf := HX6.out.method (a := a) own9 hm9 hat9
            have HM9 : Hid (Mod (fun k => B ≤ k) w w9) := Lib.hid (HM6.out.step hm9 (fun i hi e => (HX6.out.last.methods.blk_tb e).1))
            have hSG := Mod.setCell (S := fun k => k = g) (p := ⟨g, pre.length * 6 + 3, none⟩) (Mod.refl _ w9) (.inl rfl) (.slice (some ⟨g9, 0, none⟩) (x.mn + 1) cap9)
            have HFIN : Hid (RRdQ line B bo lb s w (.returned (.bool true)) (w9.setCell ⟨g, pre.length * 6 + 3, none⟩ (.slice (some ⟨g9, 0, none⟩) (x.mn + 1) cap9))) := Lib.hid (HEND.out _ (Mod.setCell (p := ⟨g, pre.length * 6 + 3, none⟩) HM9.out (.inl HX6.out.tb.1) _) ⟨HBO.out, HBL.out, some ⟨g, 0, none⟩, n, c, ho9.mod hSG (HO6.out.tb.ne HX6.out.tb.2 (by decide)), hl9.mod hSG (HL6.out.tb.ne HX6.out.tb.2 (by decide)), .inr ⟨g, pre, _, pout, _, rfl, rfl, hXf⟩⟩)
            refine hK.out _ _ ⟨q9, (hp9.cell 1).trans rfl, l9, hp9.lt⟩ (fun hHeld => ?_)
            clear hK K hHeld
            try simp only [Act.put, List.setIfInBounds_toArray, List.set_cons_zero, List.set_cons_succ]
            refine heldO_nil ?_
            clear own6 blk6 ho9 hl9 hp9 hm9 hat9 own9 m6 HZ hXf hng hnp hno hnl HAP hSG
            go_wp2_with fail
            go_ret
            exact HFIN.out
        · obtain rfl : 3 = N := HN.out
          obtain rfl | rfl | rfl : kd = 1 ∨ kd = 2 ∨ kd = 3 := by omega
          · obtain rfl : ki = 0 := by have := HKI.out; omega
            have HEND : Hid (∀ w', Mod (fun k => B ≤ k) w w' → RdQAt w' B bo lb ⟨s.out ++ [⟨a, [], b2, [], [], ⟨#[]⟩⟩], 1⟩ → RRdQ line B bo lb s w (.returned (.bool true)) w') := Lib.hid (fun w' h1 h2 => .yes (by rw [HW.out]; rfl) h1 h2)
            have HP5 : Hid (Blk w4 pb 9 #[.string word, .string a, .string b2]) := Lib.hid HP4.out
            obtain ⟨xs, hox, hax⟩ := HR4.out.own
            have hnl : n ≤ 9001 := by have := HR4.out.len; omega
            have HOA := Lib.hid hox
            have HAX := Lib.hid hax
            clear hox hax hol
            have HSC : Hid (∀ W, New w4 W → W.cell? ⟨bo, 0, none⟩ = some (.slice A n c) ∧ W.cell? ⟨pb, 1, none⟩ = some (.string a) ∧ W.cell? ⟨pb, 2, none⟩ = some (.string b2) ∧ True ∧ bo < W.heap.size ∧ pb < W.heap.size) := Lib.hid (fun W h => by
              have h1 := HO4.out.mod h (fun e => e)
              have h2 := HP5.out.mod h (fun e => e)
              exact ⟨(h1.cell 0).trans rfl, (h2.cell 1).trans rfl, (h2.cell 2).trans rfl, trivial, h1.lt, h2.lt⟩)
            go_upto_region 13 with (fail)
            go_wp2_with fail
            refine hct.mono ?_
            clear hct
            rintro e w5 ⟨rfl, rfl⟩
            go_upto_region 17 with (fail)
            refine wp_region_held_ord (fun W => W.cell? ⟨bo, 0, none⟩ = some (.slice A n c) ∧ W.cell? ⟨pb, 1, none⟩ = some (.string a) ∧ W.cell? ⟨pb, 2, none⟩ = some (.string b2) ∧ True ∧ bo < W.heap.size ∧ pb < W.heap.size) [9, 11, 12] [0, 1, 2, 3, 4, 5, 6, 7, 8, 9, 10, 11, 12] (by kernel_rfl) (by kernel_rfl) (fun _ _ d _ _ h => by cases d <;> exact h) ?_ (fun hHeld => ?_)
            · exact HSC.out _ (Mod.refl _ _).drew
            simp only [List.length_cons, List.length_nil, List.drop_succ_cons, List.drop_zero]
            refine heldO_take ?_ (by rfl) (by rfl) (by rfl) (fun w hSw => ?_) ?_
            rotate_left
            · (try dsimp only at hSw); go_simp; any_goals (with_reducible rfl)
            simp only [Act.put, List.setIfInBounds_toArray, List.set_cons_zero, List.set_cons_succ]
            refine heldO_take ?_ (by rfl) (by rfl) (by rfl) (fun w hSw => ?_) ?_
            rotate_left
            · (try dsimp only at hSw); go_simp; any_goals (with_reducible rfl)
            simp only [Act.put, List.setIfInBounds_toArray, List.set_cons_zero, List.set_cons_succ]
            refine heldO_take ?_ (by rfl) (by rfl) (by rfl) (fun w hSw => ?_) ?_
            rotate_left
            · (try dsimp only at hSw); go_simp; any_goals (with_reducible rfl)
            simp only [Act.put, List.setIfInBounds_toArray, List.set_cons_zero, List.set_cons_succ]
            refine heldO_take ?_ (by rfl) (by rfl) (by rfl) (fun w hSw => ?_) ?_
            rotate_left
            · (try dsimp only at hSw); go_simp; any_goals (with_reducible rfl)
            simp only [Act.put, List.setIfInBounds_toArray, List.set_cons_zero, List.set_cons_succ]
            refine heldO_take ?_ (by rfl) (by rfl) (by rfl) (fun w hSw => ?_) ?_
            rotate_left
            · (try dsimp only at hSw); go_simp; any_goals (with_reducible rfl)
            simp only [Act.put, List.setIfInBounds_toArray, List.set_cons_zero, List.set_cons_succ]
            refine heldO_take ?_ (by rfl) (by rfl) (by rfl) (fun w hSw => ?_) ?_
            rotate_left
            · (try dsimp only at hSw); go_simp; any_goals (with_reducible rfl)
            simp only [Act.put, List.setIfInBounds_toArray, List.set_cons_zero, List.set_cons_succ]
            refine heldO_take ?_ (by rfl) (by rfl) (by rfl) (fun w hSw => ?_) ?_
            rotate_left
            · (try dsimp only at hSw); go_simp; any_goals (with_reducible rfl)
            simp only [Act.put, List.setIfInBounds_toArray, List.set_cons_zero, List.set_cons_succ]
            refine heldO_take ?_ (by rfl) (by rfl) (by rfl) (fun w hSw => ?_) ?_
            rotate_left
            · (try dsimp only at hSw); go_simp; any_goals (with_reducible rfl)
            simp only [Act.put, List.setIfInBounds_toArray, List.set_cons_zero, List.set_cons_succ]
            refine heldO_take ?_ (by rfl) (by rfl) (by rfl) (fun w hSw => ?_) ?_
            rotate_left
            · (try dsimp only at hSw); go_simp; any_goals (with_reducible rfl)
            simp only [Act.put, List.setIfInBounds_toArray, List.set_cons_zero, List.set_cons_succ]
            refine heldO_step (by rfl) (by rfl) (by rfl) (fun K hK => ?_)
            go_simp
            refine (Tryz.strings_Join_none _ _ _ _).mono ?_
            rintro e w' ⟨rfl, rfl⟩
            go_wp2_with fail
            refine hK.out _ _ (HSC.out _ (Mod.refl _ _).drew) (fun hHeld => ?_)
            clear hK K hHeld
            try simp only [Act.put, List.setIfInBounds_toArray, List.set_cons_zero, List.set_cons_succ]
            refine heldO_take ?_ (by rfl) (by rfl) (by rfl) (fun w hSw => ?_) ?_
            rotate_left
            · (try dsimp only at hSw); go_simp; any_goals (with_reducible rfl)
            simp only [Act.put, List.setIfInBounds_toArray, List.set_cons_zero, List.set_cons_succ]
            refine heldO_step (by rfl) (by rfl) (by rfl) (fun K hK => ?_)
            go_simp
            rename World => w5
            have m6 : New w5 (w5.alloc (.cells #[.string a, .slice none 0 0, .string b2, .slice none 0 0, .slice none 0 0, .string ⟨#[]⟩] 44)).drew := ((Mod.refl _ w5).alloc _).drew
            refine hK.out _ _ (HSC.out _ m6) (fun hHeld => ?_)
            clear hK K hHeld
            try simp only [Act.put, List.setIfInBounds_toArray, List.set_cons_zero, List.set_cons_succ]
            have HO6 := Lib.hid (HO4.out.mod m6 (fun e => e))
            have HL6 := Lib.hid (HL4.out.mod m6 (fun e => e))
            have HP6 := Lib.hid (HP5.out.mod m6 (fun e => e))
            have own6 := HOA.out.new m6
            have HA6 := Lib.hid own6
            have HAX6 := Lib.hid (HAX.out.imp (fun _ _ q => q.new m6))
            have HM6 := Lib.hid (HM4.out.trans (Mod.old B m6))
            have blk6 : Blk (w5.alloc (.cells #[.string a, .slice none 0 0, .string b2, .slice none 0 0, .slice none 0 0, .string ⟨#[]⟩] 44)).drew w5.heap.size 44 (encL 6 RA.enc ⟨a, none, 0, 0, b2, none, 0, 0, none, 0, 0, ⟨#[]⟩⟩).toArray := (Blk.new w5 _ _).mod ((Mod.refl (fun _ => False) _).drew) (fun e => e)
            have HZ : Hid (B ≤ (w5.alloc (.cells #[.string a, .slice none 0 0, .string b2, .slice none 0 0, .slice none 0 0, .string ⟨#[]⟩] 44)).drew.heap.size) := Lib.hid (by have := m6.size; omega)
            refine heldO_step (by rfl) (by rfl) (by rfl) (fun K hK => ?_)
            refine wp_push (.tmp 94) (.tmp 105) _ rfl 120 Tryz.underlying26 einfo_rt rfl (by exact own6) ⟨a, none, 0, 0, b2, none, 0, 0, none, 0, 0, ⟨#[]⟩⟩ w5.heap.size rfl (by exact blk6) (fun j hj => RA.one _ j hj) (by omega) (by omega) HZ.out ?_
            intro g9 cap9 w9 own9 hm9 hat9 hlt9
            have hno : ¬ blkOf A = some bo := fun e => (HA6.out.blk_tb e).2.ne HO6.out.tb (by decide) rfl
            have hnb : ¬ blkOf A = some lb := fun e => (HA6.out.blk_tb e).2.ne HL6.out.tb (by decide) rfl
            have hnp : ¬ blkOf A = some pb := fun e => (HA6.out.blk_tb e).2.ne HP6.out.tb (by decide) rfl
            have ho9 := HO6.out.mod hm9 hno
            have hl9 := HL6.out.mod hm9 hnb
            have hp9 := HP6.out.mod hm9 hnp
            have HM9 : Hid (Mod (fun k => B ≤ k) w w9) := Lib.hid (HM6.out.step hm9 (fun i hi e => (HA6.out.blk_tb e).1))
            have HRW : Hid (RdRows w9 B (some ⟨g9, 0, none⟩) (n + 1) cap9 (s.out ++ [⟨a, [], b2, [], [], ⟨#[]⟩⟩])) := Lib.hid (RdRows.push HA6.out HAX6.out own9 hm9 ⟨rfl, rfl, rfl⟩ ⟨rfl, rfl, rfl, rfl, rfl, rfl, rfl, rfl, rfl⟩ ⟨rfl, rfl, rfl⟩)
            have hSG := Mod.setCell (S := fun k => k = bo) (p := ⟨bo, 0, none⟩) (Mod.refl _ w9) (.inl rfl) (.slice (some ⟨g9, 0, none⟩) (n + 1) cap9)
            have HFIN : Hid (RRdQ line B bo lb s w (.returned (.bool true)) (w9.setCell ⟨bo, 0, none⟩ (.slice (some ⟨g9, 0, none⟩) (n + 1) cap9))) := Lib.hid (HEND.out _ (Mod.setCell (p := ⟨bo, 0, none⟩) HM9.out (.inl HBO.out) _) ⟨HBO.out, HBL.out, some ⟨g9, 0, none⟩, n + 1, cap9, by simpa using ho9.set 0 (.slice (some ⟨g9, 0, none⟩) (n + 1) cap9), hl9.mod hSG (HL6.out.tb.ne HO6.out.tb (by decide)), HRW.out.mod hSG (fun k _ ht e => by
              rcases ht with ht | ht | ht
              · exact ht.ne ho9.tb (by decide) e
              · exact ht.ne ho9.tb (by decide) e
              · exact ht.ne ho9.tb (by decide) e)⟩)
            have c09 := ho9.cell 0
            have cf9 := ho9.frozen 0
            have cl9 := ho9.lt
            simp only [List.getElem?_toArray, List.getElem?_cons_zero, List.getElem?_cons_succ] at c09
            refine hK.out _ _ ⟨(ho9.cell 0).trans rfl, (hp9.cell 1).trans rfl, (hp9.cell 2).trans rfl, trivial, ho9.lt, hp9.lt⟩ (fun hHeld => ?_)
            clear hK K hHeld
            try simp only [Act.put, List.setIfInBounds_toArray, List.set_cons_zero, List.set_cons_succ]
            refine heldO_nil ?_
            clear own6 blk6 ho9 hl9 hp9 hm9 hat9 own9 m6 HZ hno hnb hnp hSG
            go_wp2_with fail
            go_ret
            exact HFIN.out
          · obtain rfl : ki = 1 := by have := HKI.out; omega
            go_wp2_with fail
            refine hct.mono ?_
            clear hct
            rintro e w5 ⟨rfl, rfl⟩
            go_wp2_with fail
            go_ret
            exact HNO.out _ (by rw [HW.out]; rfl) HM4.out
          · obtain rfl : ki = 2 := by have := HKI.out; omega
            go_wp2_with fail
            refine hct.mono ?_
            clear hct
            rintro e w5 ⟨rfl, rfl⟩
            go_wp2_with fail
            go_ret
            exact HNO.out _ (by rw [HW.out]; rfl) HM4.out
        · obtain rfl : 4 = N := HN.out
          obtain rfl | rfl | rfl : kd = 1 ∨ kd = 2 ∨ kd = 3 := by omega
          · obtain rfl : ki = 0 := by have := HKI.out; omega
            have HEND : Hid (∀ w', Mod (fun k => B ≤ k) w w' → RdQAt w' B bo lb ⟨s.out ++ [⟨a, [], b2, [], [], c3⟩], 1⟩ → RRdQ line B bo lb s w (.returned (.bool true)) w') := Lib.hid (fun w' h1 h2 => .yes (by rw [HW.out]; rfl) h1 h2)
            have HP5 : Hid (Blk w4 pb 9 #[.string word, .string a, .string b2, .string c3]) := Lib.hid HP4.out
            obtain ⟨xs, hox, hax⟩ := HR4.out.own
            have hnl : n ≤ 9001 := by have := HR4.out.len; omega
            have HOA := Lib.hid hox
            have HAX := Lib.hid hax
            clear hox hax hol
            have HSC : Hid (∀ W, New w4 W → W.cell? ⟨bo, 0, none⟩ = some (.slice A n c) ∧ W.cell? ⟨pb, 1, none⟩ = some (.string a) ∧ W.cell? ⟨pb, 2, none⟩ = some (.string b2) ∧ W.cell? ⟨pb, 3, none⟩ = some (.string c3) ∧ bo < W.heap.size ∧ pb < W.heap.size) := Lib.hid (fun W h => by
              have h1 := HO4.out.mod h (fun e => e)
              have h2 := HP5.out.mod h (fun e => e)
              exact ⟨(h1.cell 0).trans rfl, (h2.cell 1).trans rfl, (h2.cell 2).trans rfl, (h2.cell 3).trans rfl, h1.lt, h2.lt⟩)
            go_upto_region 13 with (fail)
            go_wp2_with fail
            refine hct.mono ?_
            clear hct
            rintro e w5 ⟨rfl, rfl⟩
            go_upto_region 17 with (fail)
            refine wp_region_held_ord (fun W => W.cell? ⟨bo, 0, none⟩ = some (.slice A n c) ∧ W.cell? ⟨pb, 1, none⟩ = some (.string a) ∧ W.cell? ⟨pb, 2, none⟩ = some (.string b2) ∧ W.cell? ⟨pb, 3, none⟩ = some (.string c3) ∧ bo < W.heap.size ∧ pb < W.heap.size) [9, 11, 12] [0, 1, 2, 3, 4, 5, 6, 7, 8, 9, 10, 11, 12] (by kernel_rfl) (by kernel_rfl) (fun _ _ d _ _ h => by cases d <;> exact h) ?_ (fun hHeld => ?_)
            · exact HSC.out _ (Mod.refl _ _).drew
            simp only [List.length_cons, List.length_nil, List.drop_succ_cons, List.drop_zero]
            refine heldO_take ?_ (by rfl) (by rfl) (by rfl) (fun w hSw => ?_) ?_
            rotate_left
            · (try dsimp only at hSw); go_simp; any_goals (with_reducible rfl)
            simp only [Act.put, List.setIfInBounds_toArray, List.set_cons_zero, List.set_cons_succ]
            refine heldO_take ?_ (by rfl) (by rfl) (by rfl) (fun w hSw => ?_) ?_
            rotate_left
            · (try dsimp only at hSw); go_simp; any_goals (with_reducible rfl)
            simp only [Act.put, List.setIfInBounds_toArray, List.set_cons_zero, List.set_cons_succ]
            refine heldO_take ?_ (by rfl) (by rfl) (by rfl) (fun w hSw => ?_) ?_
            rotate_left
            · (try dsimp only at hSw); go_simp; any_goals (with_reducible rfl)
            simp only [Act.put, List.setIfInBounds_toArray, List.set_cons_zero, List.set_cons_succ]
            refine heldO_take ?_ (by rfl) (by rfl) (by rfl) (fun w hSw => ?_) ?_
            rotate_left
            · (try dsimp only at hSw); go_simp; any_goals (with_reducible rfl)
            simp only [Act.put, List.setIfInBounds_toArray, List.set_cons_zero, List.set_cons_succ]
            refine heldO_take ?_ (by rfl) (by rfl) (by rfl) (fun w hSw => ?_) ?_
            rotate_left
            · (try dsimp only at hSw); go_simp; any_goals (with_reducible rfl)
            simp only [Act.put, List.setIfInBounds_toArray, List.set_cons_zero, List.set_cons_succ]
            refine heldO_take ?_ (by rfl) (by rfl) (by rfl) (fun w hSw => ?_) ?_
            rotate_left
            · (try dsimp only at hSw); go_simp; any_goals (with_reducible rfl)
            simp only [Act.put, List.setIfInBounds_toArray, List.set_cons_zero, List.set_cons_succ]
            refine heldO_take ?_ (by rfl) (by rfl) (by rfl) (fun w hSw => ?_) ?_
            rotate_left
            · (try dsimp only at hSw); go_simp; any_goals (with_reducible rfl)
            simp only [Act.put, List.setIfInBounds_toArray, List.set_cons_zero, List.set_cons_succ]
            refine heldO_take ?_ (by rfl) (by rfl) (by rfl) (fun w hSw => ?_) ?_
            rotate_left
            · (try dsimp only at hSw); go_simp; any_goals (with_reducible rfl)
            simp only [Act.put, List.setIfInBounds_toArray, List.set_cons_zero, List.set_cons_succ]
            refine heldO_take ?_ (by rfl) (by rfl) (by rfl) (fun w hSw => ?_) ?_
            rotate_left
            · (try dsimp only at hSw); go_simp; any_goals (with_reducible rfl)
            simp only [Act.put, List.setIfInBounds_toArray, List.set_cons_zero, List.set_cons_succ]
            refine heldO_step (by rfl) (by rfl) (by rfl) (fun K hK => ?_)
            go_simp
            refine (Any.strings_Join_one Tryz.lays156 Tryz.Builder_Extra_156 _ _ _ c3 _ _ (HSC.out _ (Mod.refl _ _).drew).2.2.2.1).mono ?_
            rintro e w' ⟨rfl, rfl⟩
            go_wp2_with fail
            refine hK.out _ _ (HSC.out _ (Mod.refl _ _).drew) (fun hHeld => ?_)
            clear hK K hHeld
            try simp only [Act.put, List.setIfInBounds_toArray, List.set_cons_zero, List.set_cons_succ]
            refine heldO_take ?_ (by rfl) (by rfl) (by rfl) (fun w hSw => ?_) ?_
            rotate_left
            · (try dsimp only at hSw); go_simp; any_goals (with_reducible rfl)
            simp only [Act.put, List.setIfInBounds_toArray, List.set_cons_zero, List.set_cons_succ]
            refine heldO_step (by rfl) (by rfl) (by rfl) (fun K hK => ?_)
            go_simp
            rename World => w5
            have m6 : New w5 (w5.alloc (.cells #[.string a, .slice none 0 0, .string b2, .slice none 0 0, .slice none 0 0, .string c3] 44)).drew := ((Mod.refl _ w5).alloc _).drew
            refine hK.out _ _ (HSC.out _ m6) (fun hHeld => ?_)
            clear hK K hHeld
            try simp only [Act.put, List.setIfInBounds_toArray, List.set_cons_zero, List.set_cons_succ]
            have HO6 := Lib.hid (HO4.out.mod m6 (fun e => e))
            have HL6 := Lib.hid (HL4.out.mod m6 (fun e => e))
            have HP6 := Lib.hid (HP5.out.mod m6 (fun e => e))
            have own6 := HOA.out.new m6
            have HA6 := Lib.hid own6
            have HAX6 := Lib.hid (HAX.out.imp (fun _ _ q => q.new m6))
            have HM6 := Lib.hid (HM4.out.trans (Mod.old B m6))
            have blk6 : Blk (w5.alloc (.cells #[.string a, .slice none 0 0, .string b2, .slice none 0 0, .slice none 0 0, .string c3] 44)).drew w5.heap.size 44 (encL 6 RA.enc ⟨a, none, 0, 0, b2, none, 0, 0, none, 0, 0, c3⟩).toArray := (Blk.new w5 _ _).mod ((Mod.refl (fun _ => False) _).drew) (fun e => e)
            have HZ : Hid (B ≤ (w5.alloc (.cells #[.string a, .slice none 0 0, .string b2, .slice none 0 0, .slice none 0 0, .string c3] 44)).drew.heap.size) := Lib.hid (by have := m6.size; omega)
            refine heldO_step (by rfl) (by rfl) (by rfl) (fun K hK => ?_)
            refine wp_push (.tmp 94) (.tmp 105) _ rfl 120 Tryz.underlying26 einfo_rt rfl (by exact own6) ⟨a, none, 0, 0, b2, none, 0, 0, none, 0, 0, c3⟩ w5.heap.size rfl (by exact blk6) (fun j hj => RA.one _ j hj) (by omega) (by omega) HZ.out ?_
            intro g9 cap9 w9 own9 hm9 hat9 hlt9
            have hno : ¬ blkOf A = some bo := fun e => (HA6.out.blk_tb e).2.ne HO6.out.tb (by decide) rfl
            have hnb : ¬ blkOf A = some lb := fun e => (HA6.out.blk_tb e).2.ne HL6.out.tb (by decide) rfl
            have hnp : ¬ blkOf A = some pb := fun e => (HA6.out.blk_tb e).2.ne HP6.out.tb (by decide) rfl
            have ho9 := HO6.out.mod hm9 hno
            have hl9 := HL6.out.mod hm9 hnb
            have hp9 := HP6.out.mod hm9 hnp
            have HM9 : Hid (Mod (fun k => B ≤ k) w w9) := Lib.hid (HM6.out.step hm9 (fun i hi e => (HA6.out.blk_tb e).1))
            have HRW : Hid (RdRows w9 B (some ⟨g9, 0, none⟩) (n + 1) cap9 (s.out ++ [⟨a, [], b2, [], [], c3⟩])) := Lib.hid (RdRows.push HA6.out HAX6.out own9 hm9 ⟨rfl, rfl, rfl⟩ ⟨rfl, rfl, rfl, rfl, rfl, rfl, rfl, rfl, rfl⟩ ⟨rfl, rfl, rfl⟩)
            have hSG := Mod.setCell (S := fun k => k = bo) (p := ⟨bo, 0, none⟩) (Mod.refl _ w9) (.inl rfl) (.slice (some ⟨g9, 0, none⟩) (n + 1) cap9)
            have HFIN : Hid (RRdQ line B bo lb s w (.returned (.bool true)) (w9.setCell ⟨bo, 0, none⟩ (.slice (some ⟨g9, 0, none⟩) (n + 1) cap9))) := Lib.hid (HEND.out _ (Mod.setCell (p := ⟨bo, 0, none⟩) HM9.out (.inl HBO.out) _) ⟨HBO.out, HBL.out, some ⟨g9, 0, none⟩, n + 1, cap9, by simpa using ho9.set 0 (.slice (some ⟨g9, 0, none⟩) (n + 1) cap9), hl9.mod hSG (HL6.out.tb.ne HO6.out.tb (by decide)), HRW.out.mod hSG (fun k _ ht e => by
              rcases ht with ht | ht | ht
              · exact ht.ne ho9.tb (by decide) e
              · exact ht.ne ho9.tb (by decide) e
              · exact ht.ne ho9.tb (by decide) e)⟩)
            have c09 := ho9.cell 0
            have cf9 := ho9.frozen 0
            have cl9 := ho9.lt
            simp only [List.getElem?_toArray, List.getElem?_cons_zero, List.getElem?_cons_succ] at c09
            refine hK.out _ _ ⟨(ho9.cell 0).trans rfl, (hp9.cell 1).trans rfl, (hp9.cell 2).trans rfl, (hp9.cell 3).trans rfl, ho9.lt, hp9.lt⟩ (fun hHeld => ?_)
            clear hK K hHeld
            try simp only [Act.put, List.setIfInBounds_toArray, List.set_cons_zero, List.set_cons_succ]
            refine heldO_nil ?_
            clear own6 blk6 ho9 hl9 hp9 hm9 hat9 own9 m6 HZ hno hnb hnp hSG
            go_wp2_with fail
            go_ret
            exact HFIN.out
          · obtain rfl : ki = 1 := by have := HKI.out; omega
            go_wp2_with fail
            refine hct.mono ?_
            clear hct
            rintro e w5 ⟨rfl, rfl⟩
            go_wp2_with fail
            go_ret
            exact HNO.out _ (by rw [HW.out]; rfl) HM4.out
          · obtain rfl : ki = 2 := by have := HKI.out; omega
            go_wp2_with fail
            refine hct.mono ?_
            clear hct
            rintro e w5 ⟨rfl, rfl⟩
            go_wp2_with fail
            go_ret
            exact HNO.out _ (by rw [HW.out]; rfl) HM4.out
        · have n5 : 5 ≤ N := by have := HN.out; simp at this; omega
          have n2 : ((N : Int) == 2) = false := by simp; omega
          have n3 : ((N : Int) == 3) = false := by simp; omega
          have n4 : ((N : Int) == 4) = false := by simp; omega
          obtain rfl | rfl | rfl : kd = 1 ∨ kd = 2 ∨ kd = 3 := by omega
          · obtain rfl : ki = 0 := by have := HKI.out; omega
            go_wp2_with fail
            refine hct.mono ?_
            clear hct
            rintro e w5 ⟨rfl, rfl⟩
            go_wp2_with fail
            go_ret
            exact HNO.out _ (by rw [HW.out]; rfl) HM4.out
          · obtain rfl : ki = 1 := by have := HKI.out; omega
            go_wp2_with fail
            refine hct.mono ?_
            clear hct
            rintro e w5 ⟨rfl, rfl⟩
            go_wp2_with fail
            go_ret
            exact HNO.out _ (by rw [HW.out]; rfl) HM4.out
          · obtain rfl : ki = 2 := by have := HKI.out; omega
            go_wp2_with fail
            refine hct.mono ?_
            clear hct
            rintro e w5 ⟨rfl, rfl⟩
            go_wp2_with fail
            go_ret
            exact HNO.out _ (by rw [HW.out]; rfl) HM4.out
end Go.Proofs.YtnbcfpjalgfikaaGreatDoor

namespace Go.Proofs.YtnbcfpjalgfikaaGreatDoor
open Go.RowKit
set_option linter.unusedVariables false
set_option linter.unusedSimpArgs false

theorem rdText_bad {t : ByteArray} {s : RdS} {k : Nat} (ht : t.size ≤ 200000) (h : readSt stepR (pieces t nl) ⟨[], 0⟩ 0 = (s, k, false)) : rdText t = ([], (k : Int), 9) := by
  unfold rdText
  rw [if_neg (by omega), h]
  rfl
theorem rdText_fault {t : ByteArray} {s : RdS} {k : Nat} (ht : t.size ≤ 200000) (h : readSt stepR (pieces t nl) ⟨[], 0⟩ 0 = (s, k, true)) (hf : routesF s.out ≠ 0) : rdText t = ([], 0, routesF s.out) := by
  unfold rdText
  rw [if_neg (by omega), h]
  simp [hf]
theorem rdText_good {t : ByteArray} {s : RdS} {k : Nat} (ht : t.size ≤ 200000) (h : readSt stepR (pieces t nl) ⟨[], 0⟩ 0 = (s, k, true)) (hf : routesF s.out = 0) : rdText t = (s.out, 0, 0) := by
  unfold rdText
  rw [if_neg (by omega), h]
  simp [hf]
theorem RdSmall.rtShort {m : Nat} {s : RdS} (h : RdSmall m s) (hm : m ≤ 100000) : ∀ r ∈ s.out, RtShort r := fun r hr => by
  obtain ⟨q1, q2, q3, q4, q5, q6⟩ := h.short hm r hr
  exact ⟨q1, q2, q3, q4, q5, q6⟩
def RRtRead (t : ByteArray) (w : World) (e : Ending) (w' : World) : Prop :=
  ∃ A n c, e = .returned (.tuple #[.slice A n c, .int .i64 (rdText t).2.1, .int .i64 (rdText t).2.2]) ∧ RtRows w' A n (rdText t).1 ∧ New w w'

set_option maxRecDepth 100000 in
set_option maxHeartbeats 1000000 in
theorem rt_read (t : ByteArray) (w : World) (hs : t.size ≤ 9000) (hx : MaxLn w) :
    Calls Tryz.prog 9 #[.string t] w (RRtRead t w) := by
  have hli := kit_lines t w (by omega) hx
  unfold RLines at hli
  have hR1 : ∀ s k w', readSt stepR (pieces t nl) ⟨[], 0⟩ 0 = (s, k, false) → New w w' → RRtRead t w (.returned (.tuple #[.slice none 0 0, .int .i64 (k : Int), .int .i64 9])) w' := fun s k w' h hm =>
    ⟨none, 0, 0, by rw [rdText_bad (by omega) h], by rw [rdText_bad (by omega) h]; exact RtRows.nil _, hm⟩
  have hR2 : ∀ s k w', readSt stepR (pieces t nl) ⟨[], 0⟩ 0 = (s, k, true) → routesF s.out ≠ 0 → New w w' → RRtRead t w (.returned (.tuple #[.slice none 0 0, .int .i64 0, .int .i64 (routesF s.out)])) w' := fun s k w' h hf hm =>
    ⟨none, 0, 0, by rw [rdText_fault (by omega) h hf], by rw [rdText_fault (by omega) h hf]; exact RtRows.nil _, hm⟩
  have hR3 : ∀ s k w' A n c, readSt stepR (pieces t nl) ⟨[], 0⟩ 0 = (s, k, true) → routesF s.out = 0 → RtRows w' A n s.out → New w w' → RRtRead t w (.returned (.tuple #[.slice A n c, .int .i64 0, .int .i64 0])) w' := fun s k w' A n c h hf hl hm =>
    ⟨A, n, c, by rw [rdText_good (by omega) h hf], by rw [rdText_good (by omega) h hf]; exact hl, hm⟩
  have hlen : (pieces t nl).length ≤ 9001 := by
    rw [pieces_length (show 1 ≤ (nl : ByteArray).size from Nat.le_refl _)]
    have := Lib.countB_le nl (Nat.le_refl _) t.size t (Nat.le_refl _)
    omega
  have hle := fun x (h : x ∈ pieces t nl) => Nat.le_trans (pieces_le h) hs
  have hne : pieces t nl ≠ [] := pieces_ne (Nat.le_refl _)
  generalize hP : pieces t nl = P at *
  clear hP
  have HR1 := Lib.hid hR1
  have HR2 := Lib.hid hR2
  have HR3 := Lib.hid hR3
  have HLE := Lib.hid hle
  clear hR1 hR2 hR3 hle
  obtain ⟨N, E, hN, hE1, hE2, hli⟩ : ∃ (N : Nat) (E : Bool), N ≤ P.length ∧ (E = true → N = P.length - 1 ∧ P.drop N = [⟨#[]⟩]) ∧ (E = false → N = P.length ∧ P.drop (N - 1) ≠ [⟨#[]⟩] ∧ P.getLast? ≠ some ⟨#[]⟩) ∧
      Calls Tryz.prog 27 #[.string t] w (fun e w' => e = .returned (.tuple #[.slice (some ⟨w.heap.size, 0, none⟩) N P.length, .bool E]) ∧ w' = w.alloc (.cells (strCs P) 9)) := by
    have hlp : 1 ≤ P.length := by cases P with | nil => exact absurd rfl hne | cons _ _ => simp
    have hdl : P.drop (P.length - 1) = [P[P.length - 1]] := by
      rw [List.drop_eq_getElem_cons (by omega), List.drop_of_length_le (by omega)]
    have hgl : P.getLast? = some P[P.length - 1] := by rw [List.getLast?_eq_getElem?, List.getElem?_eq_getElem (by omega)]
    by_cases hg : P.getLast? = some ⟨#[]⟩
    · have hd : decide (P.getLast? = some ⟨#[]⟩) = true := by simpa using hg
      rw [if_pos hg, hd] at hli
      refine ⟨P.length - 1, true, by omega, fun _ => ⟨rfl, ?_⟩, (fun h => by cases h), hli⟩
      rw [hdl]
      rw [hgl] at hg
      injection hg with hg
      rw [hg]
    · have hd : decide (P.getLast? = some ⟨#[]⟩) = false := by simpa using hg
      rw [if_neg hg, hd] at hli
      refine ⟨P.length, false, by omega, (fun h => by cases h), fun _ => ⟨rfl, ?_, hg⟩, hli⟩
      rw [hdl]
      intro h
      injection h with h
      rw [hgl, h] at hg
      exact hg rfl
  have HE1 := Lib.hid hE1
  have HE2 := Lib.hid hE2
  have hts : ¬ (200000 : Int) < (t.size : Int) := by omega
  clear hE1 hE2 hne
  go_enter Tryz.func9, Tryz.ntmps9
  go_wp2_with fail
  refine hli.mono ?_
  clear hli
  rintro e w1 ⟨rfl, hw1⟩
  have hbp : Blk w1 w.heap.size 9 (strCs P) := by rw [hw1]; exact Blk.new _ _ _
  have hm1 : New w w1 := by rw [hw1]; exact (Mod.refl _ _).alloc _
  have HBP := Lib.hid hbp
  have HM1 := Lib.hid hm1
  have HX1 := Lib.hid (hx.new hm1)
  clear hw1 hbp hm1 hx
  go_upto_region 5 with (fail)
  have m2 : New w1 (w1.alloc (.cells #[.slice none 0 0, .int .i64 0] 66)) := (Mod.refl _ _).alloc _
  have HR0 : Hid (RdAt (w1.alloc (.cells #[.slice none 0 0, .int .i64 0] 66)) w1.heap.size w1.heap.size ⟨[], 0⟩) := Lib.hid ⟨Nat.le_refl _, none, 0, 0, Blk.new _ _ _, .inl ⟨rfl, rfl, rfl, rfl⟩⟩
  have HM2 := Lib.hid (HM1.out.trans m2)
  have HB2 := Lib.hid (HBP.out.mod m2 (fun e => e))
  have HX2 := Lib.hid (HX1.out.new m2)
  have hz2 : w1.heap.size < (w1.alloc (.cells #[.slice none 0 0, .int .i64 0] 66)).heap.size := by simp
  have HPB : Hid (w.heap.size < w1.heap.size) := Lib.hid HBP.out.lt
  clear m2 HBP
  generalize w1.alloc (.cells #[.slice none 0 0, .int .i64 0] 66) = w2 at *
  generalize hrb : w1.heap.size = rb at *
  have HRB := Lib.hid hrb
  clear hrb
  go_wp2_with fail
  go_loopw [23] (fun i wr => ∃ (k : Nat) (s : RdS), k ≤ N ∧ i = .int .i64 k ∧ Hid (RdAt wr rb rb s) ∧ Hid (Mod (fun x => rb ≤ x) w2 wr) ∧ Hid (readSt stepR P ⟨[], 0⟩ 0 = readSt stepR (P.drop k) s k) ∧ Hid (RdSmall k s)) (fun i _ => N - (intOf i).toNat)
  case atStart => exact ⟨0, ⟨[], 0⟩, Nat.zero_le _, rfl, HR0, Lib.hid (Mod.refl _ _), Lib.hid rfl, Lib.hid RdSmall.nil⟩
  case round =>
    rename World => wr
    obtain ⟨k, s, hk, rfl, HO, HM, HRD, HKS⟩ := hrel
    have HNW : Hid (New w wr) := Lib.hid (HM2.out.step HM.out (fun i hi e => by have := HPB.out; omega))
    by_cases hlt : k < N
    · have hkP : k < P.length := by omega
      have hcell : wr.cell? ⟨w.heap.size, k, none⟩ = some (.string P[k]) := by
        have h1 := strs_at (HB2.out.mod HM.out (fun e => by have := HPB.out; omega)) k hkP
        rw [h1]
        congr 2
        rw [List.getD_eq_getElem?_getD, List.getElem?_eq_getElem hkP]
        rfl
      have hbl : w.heap.size < wr.heap.size := (HB2.out.mod HM.out (fun e => by have := HPB.out; omega)).lt
      have hsz := HLE.out P[k] (List.getElem_mem hkP)
      have hwz : rb ≤ wr.heap.size := by have := HM.out.size; omega
      have hrl := rd_line P[k] rb rb k s wr w1 HO.out HKS.out (by omega) (by rw [HRB.out]; exact Nat.le_refl _) hwz hsz HX1.out (HX1.out.mod HX2.out HM.out (fun g hg e => by have := HRB.out; omega))
      have hDR : P.drop k = P[k] :: P.drop (k + 1) := List.drop_eq_getElem_cons hkP
      have HBAD : Hid (stepR s P[k] = none → readSt stepR P ⟨[], 0⟩ 0 = (s, k, false)) := Lib.hid (fun hn => by
        rw [HRD.out, hDR]
        by_cases hr : P.drop (k + 1) = []
        · rw [hr, readSt_last, if_neg]
          intro he
          have hkl : P.length = k + 1 := by
            have := congrArg List.length hr
            simp at this
            omega
          cases E with
          | true => have := (HE1.out rfl).1; omega
          | false =>
            have := (HE2.out rfl).2.2
            rw [List.getLast?_eq_getElem?, show P.length - 1 = k by omega, List.getElem?_eq_getElem hkP, he] at this
            exact this rfl
        · exact readSt_bad hr hn)
      have HLAST : Hid (E = false → k = N - 1 → readSt stepR P ⟨[], 0⟩ 0 = (s, k, false)) := Lib.hid (fun hE hkn => by
        obtain ⟨e1, e2, e3⟩ := HE2.out hE
        have hr : P.drop (k + 1) = [] := List.drop_of_length_le (by omega)
        rw [HRD.out, hDR, hr, readSt_last, if_neg]
        intro he
        rw [List.getLast?_eq_getElem?, show P.length - 1 = k by omega, List.getElem?_eq_getElem hkP, he] at e3
        exact e3 rfl)
      have HGOOD : Hid (∀ s', stepR s P[k] = some s' → ¬ (E = false ∧ k = N - 1) → readSt stepR P ⟨[], 0⟩ 0 = readSt stepR (P.drop (k + 1)) s' (k + 1)) := Lib.hid (fun s' hx hnl => by
        have hr : P.drop (k + 1) ≠ [] := fun hr => by
          have hkl : P.length ≤ k + 1 := by
            have := congrArg List.length hr
            simp at this
            omega
          cases hE : E with
          | true => have := (HE1.out hE).1; omega
          | false => have := (HE2.out hE).1; exact hnl ⟨hE, by omega⟩
        rw [HRD.out, hDR, readSt_good hr hx])
      have HKEY : Hid (∀ s', stepR s P[k] = some s' → RdSmall (k + 1) s') := Lib.hid (fun s' hx => HKS.out.step hsz hx)
      have hb1 : (0 : Int) ≤ k := by omega
      have hb2 : (k : Int) < N := by omega
      clear hDR
      generalize P[k] = line at *
      go_wp2_with fail
      refine hrl.mono ?_
      clear hrl
      rintro e w5 ⟨rfl, hm5, hr5⟩
      have HM5 := Lib.hid (HM.out.trans hm5)
      have HNW5 : Hid (New w w5) := Lib.hid (HNW.out.step hm5 (fun i hi e => by have := HPB.out; omega))
      clear hm5
      cases htl : stepR s line with
      | none =>
        have HB := Lib.hid (HBAD.out htl)
        simp only [Option.isSome_none]
        clear htl hr5
        go_wp2_with fail
        go_ret3
        exact HR1.out s k _ HB.out HNW5.out
      | some s' =>
        have HR5 := Lib.hid (hr5 s' htl)
        have HTL := Lib.hid htl
        clear htl hr5
        simp only [Option.isSome_some]
        by_cases hl : E = false ∧ k = N - 1
        · have HB := Lib.hid (HLAST.out hl.1 hl.2)
          obtain ⟨hE, hkn⟩ := hl
          subst hE
          have he : ((k : Int) == (N : Int) - 1) = true := by simp; omega
          clear hkn
          go_wp2_with fail
          go_ret3
          exact HR1.out s k _ HB.out HNW5.out
        · have HG := Lib.hid (HGOOD.out _ HTL.out hl)
          have HKY := Lib.hid (HKEY.out _ HTL.out)
          have hef : E = false → ((k : Int) == (N : Int) - 1) = false := fun h => by
            have : ¬ k = N - 1 := fun e => hl ⟨h, e⟩
            simp; omega
          have HEF := Lib.hid hef
          clear hl hef HGOOD HLAST HBAD HKEY
          cases E with
          | true =>
            go_wp2_with fail
            exact ⟨⟨k + 1, s', by omega, by go_num, HR5, HM5, HG, HKY⟩, by simp [intOf]; omega⟩
          | false =>
            have he := HEF.out rfl
            go_wp2_with fail
            exact ⟨⟨k + 1, s', by omega, by go_num, HR5, HM5, HG, HKY⟩, by simp [intOf]; omega⟩
    · obtain rfl : k = N := by omega
      have HDONE : Hid (∃ k', readSt stepR P ⟨[], 0⟩ 0 = (s, k', true)) := Lib.hid (by
        cases hE : E with
        | true =>
          have h2 := (HE1.out hE).2
          refine ⟨0, ?_⟩
          rw [HRD.out, h2, readSt_last, if_pos rfl]
        | false =>
          have h2 := (HE2.out hE).1
          refine ⟨0, ?_⟩
          rw [HRD.out, List.drop_of_length_le (by omega), readSt])
      obtain ⟨k', hdone⟩ := HDONE.out
      have HD := Lib.hid hdone
      obtain ⟨-, A, n, c, hb, hrr⟩ := HO.out
      have hnl : n ≤ 9001 := by have := hrr.len; have := HKS.out.out; omega
      have hcl := fun W (hW : New wr W) => rt_checkRoutes A n c s.out W (hrr.rows.new hW) (HKS.out.rtShort (by omega)) ((HX1.out.mod HX2.out HM.out (fun g hg e => by have := HRB.out; omega)).new hW) (by omega)
      rw [routesFP_eq] at hcl
      have HBR : Hid (∀ W, New wr W → W.cell? ⟨rb, 0, none⟩ = some (.slice A n c) ∧ rb < W.heap.size) := Lib.hid (fun W hW => by
        have h := hb.mod hW (fun e => e)
        exact ⟨(h.cell 0).trans rfl, h.lt⟩)
      have HRR := Lib.hid hrr
      have HCL := Lib.hid hcl
      obtain ⟨c0, cl⟩ := HBR.out _ (Mod.refl _ _)
      clear hdone HDONE hb hrr hcl
      go_wp2_with fail
      refine (HCL.out _ (Mod.refl _ _)).mono ?_
      rintro e w5 ⟨rfl, hm5⟩
      have HM5 := Lib.hid (HNW.out.trans hm5)
      obtain ⟨d0, dl⟩ := HBR.out _ hm5
      have HRR5 := Lib.hid (HRR.out.rows.new hm5)
      clear c0 cl hm5 HCL
      by_cases hf : routesF s.out = 0
      · have HF := Lib.hid hf
        rw [hf]
        clear hf
        go_wp2_with fail
        go_ret3
        exact HR3.out s k' _ A n c HD.out HF.out HRR5.out HM5.out
      · have hf' : (routesF s.out != 0) = true := by simpa using hf
        have HF3 := Lib.hid (fun W h => HR2.out s k' W HD.out hf h)
        clear hf
        generalize routesF s.out = F at *
        go_wp2_with fail
        go_ret3
        exact HF3.out _ HM5.out
end Go.Proofs.YtnbcfpjalgfikaaGreatDoor

namespace Go.Proofs.YtnbcfpjalgfikaaGreatDoor
open Go.RowKit
set_option linter.unusedVariables false
set_option linter.unusedSimpArgs false

theorem enters_rd (args : Array Value) (w : World) : (callFunc 30 args).run Tryz.prog w = .ok (.enter 30 args) w := by go_simp
def RRtLn (t : ByteArray) (w : World) (B bo lb : Nat) (e : Ending) (w' : World) : Prop :=
  ∃ s k, Mod (fun x => B ≤ x) w w' ∧ ((readSt stepR (pieces t nl) ⟨[], 0⟩ 0 = (s, k, false) ∧ e = .returned (.tuple #[.int .i64 (k : Int), .bool false])) ∨ (readSt stepR (pieces t nl) ⟨[], 0⟩ 0 = (s, k, true) ∧ e = .returned (.tuple #[.int .i64 0, .bool true]) ∧ RdQAt w' B bo lb s ∧ RdSmall 9001 s))
theorem RtTiny.up {m m' : Nat} {r : RtD} (h : RtTiny m r) (hm : m ≤ m') : RtTiny m' r :=
  ⟨h.key, h.path, h.dest, ⟨Nat.le_trans h.hosts.1 hm, h.hosts.2⟩, ⟨Nat.le_trans h.methods.1 hm, h.methods.2⟩, ⟨Nat.le_trans h.needs.1 hm, h.needs.2⟩⟩
theorem RdSmall.up {m m' : Nat} {s : RdS} (h : RdSmall m s) (hm : m ≤ m') : RdSmall m' s := ⟨Nat.le_trans h.out hm, fun r hr => (h.each r hr).up hm, h.kind, h.zero⟩

set_option maxRecDepth 100000 in
set_option maxHeartbeats 1000000 in
theorem ref_linesRt (t : ByteArray) (w w0 : World) (bo lb : Nat) (hs : t.size ≤ 9000) (hx0 : MaxLn w0) (hx : MaxLn w) (hO : RdQAt w w0.heap.size bo lb ⟨[], 0⟩) (hB : w0.heap.size ≤ w.heap.size) :
    Calls Tryz.prog 29 #[.string t, .func (.func 30) #[] #[.pointer (some ⟨bo, 0, none⟩), .pointer (some ⟨lb, 0, none⟩)]] w (RRtLn t w w0.heap.size bo lb) := by
  have HX0 := Lib.hid hx0
  have HX := Lib.hid hx
  have HO := Lib.hid hO
  have HRR : Hid (∀ e w', (∃ s k, Mod (fun x => w0.heap.size ≤ x) w w' ∧ ((readSt stepR (pieces t nl) ⟨[], 0⟩ 0 = (s, k, false) ∧ e = .returned (.tuple #[.int .i64 (k : Int), .bool false])) ∨ (readSt stepR (pieces t nl) ⟨[], 0⟩ 0 = (s, k, true) ∧ e = .returned (.tuple #[.int .i64 0, .bool true]) ∧ RdQAt w' w0.heap.size bo lb s ∧ RdSmall 9001 s))) → RRtLn t w w0.heap.size bo lb e w') := Lib.hid (fun e w' h => h)
  generalize hRD : readSt stepR (pieces t nl) ⟨[], 0⟩ 0 = RD at *
  have HRD0 := Lib.hid hRD
  clear hx0 hx hO hRD
  have eg := enters_rd
  go_enter Tryz.func29, Tryz.ntmps29
  go_wp2_with fail
  go_loopw [0, 6] (fun s i wr => ∃ (k : Nat) (t' : ByteArray) (q : RdS), s = .string t' ∧ i = .int .i64 k ∧ t'.size + k ≤ 9000 ∧ Hid (RD = readSt stepR (pieces t' nl) q k) ∧ Hid (RdQAt wr w0.heap.size bo lb q) ∧ Hid (Mod (fun x => w0.heap.size ≤ x) w wr) ∧ Hid (RdSmall k q)) (fun s _ _ => match s with | .string t' => t'.size | _ => 0)
  case atStart => exact ⟨0, t, ⟨[], 0⟩, rfl, rfl, by omega, Lib.hid HRD0.out.symm, HO, Lib.hid (Mod.refl _ _), Lib.hid RdSmall.nil⟩
  case round =>
    rename World => wr
    obtain ⟨k, t', s, rfl, rfl, hsz, HRD, HOA, HM, HKS⟩ := hrel
    have HXr : Hid (MaxLn wr) := Lib.hid (HX0.out.mod HX.out HM.out (fun g hg e => by omega))
    have hwz : w0.heap.size ≤ wr.heap.size := by have := HM.out.size; omega
    by_cases he : t' = ⟨#[]⟩
    · have he' : (t'.toList == []) = true := by rw [str_nil]; simpa using he
      have HD : Hid (RD = (s, 0, true)) := Lib.hid (by
        rw [HRD.out, he]
        have : pieces (⟨#[]⟩ : ByteArray) nl = [⟨#[]⟩] := pieces_miss (by decide +kernel)
        rw [this, readSt_last, if_pos rfl])
      clear he
      go_wp2_with fail
      go_ret2
      exact HRR.out _ _ ⟨s, 0, HM.out, .inr ⟨HD.out, rfl, HOA.out, HKS.out.up (by omega)⟩⟩
    · have he' : (t'.toList == []) = false := by rw [str_nil]; simpa using he
      rcases cut_any t' wr (by omega) HXr.out with ⟨hi, hc⟩ | ⟨i, hi, hit, hc⟩
      · have HD : Hid (RD = (s, k, false)) := Lib.hid (by
          rw [HRD.out, pieces_miss hi, readSt_last, if_neg he])
        clear he hi
        go_wp2_with fail
        refine hc.mono ?_
        clear hc
        rintro e w5 ⟨rfl, q, rfl⟩
        go_wp2_with fail
        go_ret2
        exact HRR.out _ _ ⟨s, k, HM.out.drewN q, .inl ⟨HD.out, rfl⟩⟩
      · have hpc : pieces t' nl = t'.extract 0 i :: pieces (t'.extract (i + 1) t'.size) nl := pieces_hit (Nat.le_refl _) hi
        have hrne : pieces (t'.extract (i + 1) t'.size) nl ≠ [] := pieces_ne (Nat.le_refl _)
        have hls : (t'.extract 0 i).size = i := by simp only [ByteArray.size_extract]; omega
        have hrs : (t'.extract (i + 1) t'.size).size = t'.size - (i + 1) := by simp only [ByteArray.size_extract]; omega
        have HBAD : Hid (stepR s (t'.extract 0 i) = none → RD = (s, k, false)) := Lib.hid (fun h => by
          rw [HRD.out, hpc, readSt_bad hrne h])
        have HGOOD : Hid (∀ x, stepR s (t'.extract 0 i) = some x → RD = readSt stepR (pieces (t'.extract (i + 1) t'.size) nl) x (k + 1)) := Lib.hid (fun x h => by
          rw [HRD.out, hpc, readSt_good hrne h])
        have HKEY : Hid (∀ x, stepR s (t'.extract 0 i) = some x → RdSmall (k + 1) x) := Lib.hid (fun x h => HKS.out.step (by omega) h)
        clear he hi hpc hrne
        generalize t'.extract 0 i = line at *
        generalize t'.extract (i + 1) t'.size = rest at *
        have htk := fun W (hW : New wr W) => ref_rdLine line w0.heap.size bo lb k s W w0 (HOA.out.new hW) HKS.out (by omega) (Nat.le_refl _) (by have := hW.size; omega) (by omega) HX0.out (HXr.out.new hW)
        go_wp2_with fail
        refine hc.mono ?_
        clear hc
        rintro e w5 ⟨rfl, q, rfl⟩
        have htk := htk (wr.drewN q) ((Mod.refl _ _).drewN q)
        unfold RRdQ at htk
        have HM5 := Lib.hid (HM.out.drewN q)
        clear hwz
        generalize wr.drewN q = w5 at *
        cases htl : stepR s line with
        | none =>
          have HB := Lib.hid (HBAD.out htl)
          rw [htl] at htk
          simp only [Option.isSome_none] at htk
          clear htl
          go_wp2_with fail
          refine htk.mono ?_
          clear htk
          rintro e w6 ⟨rfl, hm6, _⟩
          go_wp2_with fail
          go_ret2
          exact HRR.out _ _ ⟨s, k, HM5.out.trans hm6, .inl ⟨HB.out, rfl⟩⟩
        | some x =>
          have HG := Lib.hid (HGOOD.out x htl)
          have HK := Lib.hid (HKEY.out x htl)
          rw [htl] at htk
          simp only [Option.isSome_some] at htk
          clear htl
          go_wp2_with fail
          refine htk.mono ?_
          clear htk
          rintro e w6 ⟨rfl, hm6, ho6⟩
          have HO6 := Lib.hid (ho6 x rfl)
          have HM6 := Lib.hid (HM5.out.trans hm6)
          clear hm6 ho6
          go_wp2_with fail
          exact ⟨⟨k + 1, rest, x, rfl, by go_num, by omega, HG, HO6, HM6, HK⟩, by simp only; omega⟩

set_option maxRecDepth 100000 in
set_option maxHeartbeats 1000000 in
theorem ref_routesRead (t : ByteArray) (w : World) (hs : t.size ≤ 9000) (hx : MaxLn w) (hT : Pow10 w) :
    Calls Tryz.prog 10 #[.string t] w (RRtRead t w) := by
  have hR1 : ∀ s k w', readSt stepR (pieces t nl) ⟨[], 0⟩ 0 = (s, k, false) → New w w' → RRtRead t w (.returned (.tuple #[.slice none 0 0, .int .i64 (k : Int), .int .i64 9])) w' := fun s k w' h hm =>
    ⟨none, 0, 0, by rw [rdText_bad (by omega) h], by rw [rdText_bad (by omega) h]; exact RtRows.nil _, hm⟩
  have hR2 : ∀ s k w', readSt stepR (pieces t nl) ⟨[], 0⟩ 0 = (s, k, true) → routesF s.out ≠ 0 → New w w' → RRtRead t w (.returned (.tuple #[.slice none 0 0, .int .i64 0, .int .i64 (routesF s.out)])) w' := fun s k w' h hf hm =>
    ⟨none, 0, 0, by rw [rdText_fault (by omega) h hf], by rw [rdText_fault (by omega) h hf]; exact RtRows.nil _, hm⟩
  have hR3 : ∀ s k w' A n c, readSt stepR (pieces t nl) ⟨[], 0⟩ 0 = (s, k, true) → routesF s.out = 0 → RtRows w' A n s.out → New w w' → RRtRead t w (.returned (.tuple #[.slice A n c, .int .i64 0, .int .i64 0])) w' := fun s k w' A n c h hf hl hm =>
    ⟨A, n, c, by rw [rdText_good (by omega) h hf], by rw [rdText_good (by omega) h hf]; exact hl, hm⟩
  have HR1 := Lib.hid hR1
  have HR2 := Lib.hid hR2
  have HR3 := Lib.hid hR3
  have hm1 : New w (w.alloc (.cells #[.slice none 0 0] 26)) := (Mod.refl _ _).alloc _
  have hb1 := Blk.new w 26 #[.slice none 0 0]
  have hz1 : (w.alloc (.cells #[.slice none 0 0] 26)).heap.size = w.heap.size + 1 := by simp
  have hts : ¬ (200000 : Int) < (t.size : Int) := by omega
  have HX := Lib.hid hx
  have HT := Lib.hid hT
  clear hR1 hR2 hR3 hx hT
  go_enter Tryz.func10, Tryz.ntmps10
  go_upto_region 5 with (fail)
  generalize w.alloc (.cells #[.slice none 0 0] 26) = w1 at *
  have hm2 : New w (w1.alloc (.cells #[.int .i64 (-1)] 3)) := hm1.alloc _
  have hbl := Blk.new' (w := w1) 3 #[.int .i64 (-1)] hz1
  have hbo := hb1.mod ((Mod.refl (fun _ => False) w1).alloc (.cells #[.int .i64 (-1)] 3)) (fun e => e)
  have hO : RdQAt (w1.alloc (.cells #[.int .i64 (-1)] 3)) w.heap.size w.heap.size (w.heap.size + 1) ⟨[], 0⟩ := ⟨Nat.le_refl _, by omega, none, 0, 0, hbo, hbl, .inl ⟨rfl, rfl, rfl, rfl⟩⟩
  have hln := ref_linesRt t (w1.alloc (.cells #[.int .i64 (-1)] 3)) w w.heap.size (w.heap.size + 1) hs HX.out (HX.out.new hm2) hO hm2.size
  have HM1 := Lib.hid hm2
  have HZ1 := Lib.hid hz1
  clear hm1 hb1 hO hbl hbo hm2
  have hmf : ∀ W, (Instr.makeFunc (Fn.func 30) #[] #[.pointer (some ⟨w.heap.size, 0, none⟩), .pointer (some ⟨w.heap.size + 1, 0, none⟩)]).run Tryz.prog W = .ok (.func (.func 30) #[] #[.pointer (some ⟨w.heap.size, 0, none⟩), .pointer (some ⟨w.heap.size + 1, 0, none⟩)]) W := fun W => by first | rfl | simp [Instr.makeFunc]
  generalize w1.alloc (.cells #[.int .i64 (-1)] 3) = w2 at *
  go_wp2_with fail
  refine hln.mono ?_
  clear hln
  rintro e w5 ⟨s, k, hm5, hcs⟩
  have HM5 : Hid (New w w5) := Lib.hid (HM1.out.step hm5 (fun i hi e => by omega))
  clear hm5
  rcases hcs with ⟨hrd, rfl⟩ | ⟨hrd, rfl, ⟨hB, hB2, A, n, c, hbo, hbl, hrr⟩, hks⟩
  · have HRD := Lib.hid hrd
    clear hrd
    go_wp2_with fail
    go_ret3
    exact HR1.out s k _ HRD.out HM5.out
  · have HRD := Lib.hid hrd
    have hnl : n ≤ 9001 := by have := hrr.len; have := hks.out; omega
    have hcl := ref_routesFault A n c s.out w5 hrr.rows (hks.rtShort (by omega)) (HX.out.new HM5.out) (HT.out.new HM5.out) (by omega)
    have HBR : Hid (∀ W, New w5 W → W.cell? ⟨w.heap.size, 0, none⟩ = some (.slice A n c) ∧ w.heap.size < W.heap.size) := Lib.hid (fun W hW => by
      have h := hbo.mod hW (fun e => e)
      exact ⟨(h.cell 0).trans rfl, h.lt⟩)
    have HRR := Lib.hid hrr
    have HCL := Lib.hid hcl
    obtain ⟨c0, cl⟩ := HBR.out _ (Mod.refl _ _)
    clear hrd hbo hbl hrr hks hcl hB hB2
    go_wp2_with fail
    refine HCL.out.mono ?_
    rintro e w6 ⟨rfl, hm6⟩
    have HM6 := Lib.hid (HM5.out.trans hm6)
    obtain ⟨d0, dl⟩ := HBR.out _ hm6
    have HRR6 := Lib.hid (HRR.out.rows.new hm6)
    clear c0 cl hm6 HCL
    by_cases hf : routesF s.out = 0
    · have HF := Lib.hid hf
      rw [hf]
      clear hf
      go_wp2_with fail
      go_ret3
      exact HR3.out s k _ A n c HRD.out HF.out HRR6.out HM6.out
    · have hf' : (routesF s.out != 0) = true := by simpa using hf
      have HF3 := Lib.hid (fun W h => HR2.out s k W HRD.out hf h)
      clear hf
      generalize routesF s.out = F at *
      go_wp2_with fail
      go_ret3
      exact HF3.out _ HM6.out
end Go.Proofs.YtnbcfpjalgfikaaGreatDoor
