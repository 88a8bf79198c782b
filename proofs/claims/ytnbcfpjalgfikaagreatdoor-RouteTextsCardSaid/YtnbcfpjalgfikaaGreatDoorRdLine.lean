/- (*route.reader).line: what it reads. Conditions: a line of modest size; the library's variable on searching is an int. -/
import Derived.Test.YtnbcfpjalgfikaaGreatDoorRdMemGrp
import Derived.Test.YtnbcfpjalgfikaaGreatDoorHeldGrp
namespace Go.Proofs.YtnbcfpjalgfikaaGreatDoor
open Go.RowKit
set_option linter.unusedVariables false
set_option linter.unusedSimpArgs false





theorem einfo_rt : EInfo Tryz.prog 44 6 120 := EInfo.of (z := .agg #[.string ⟨#[]⟩, .slice none 0 0, .string ⟨#[]⟩, .slice none 0 0, .slice none 0 0, .string ⟨#[]⟩]) (by kernel_rfl) rfl (by decide)
def RRdLine (line : ByteArray) (B rb : Nat) (s : RdS) (w : World) (e : Ending) (w' : World) : Prop :=
  e = .returned (.bool (stepR s line).isSome) ∧ Mod (fun k => B ≤ k) w w' ∧ ∀ s', stepR s line = some s' → RdAt w' B rb s'
theorem RRdLine.no {line : ByteArray} {B rb : Nat} {s : RdS} {w w' : World} (h : stepR s line = none) (hm : Mod (fun k => B ≤ k) w w') : RRdLine line B rb s w (.returned (.bool false)) w' :=
  ⟨by rw [h]; rfl, hm, fun s' e => by rw [h] at e; cases e⟩
theorem RRdLine.yes {line : ByteArray} {B rb : Nat} {s s1 : RdS} {w w' : World} (h : stepR s line = some s1) (hm : Mod (fun k => B ≤ k) w w') (hr : RdAt w' B rb s1) : RRdLine line B rb s w (.returned (.bool true)) w' :=
  ⟨by rw [h]; rfl, hm, fun s' e => by rw [h] at e; injection e with e; subst e; exact hr⟩
theorem kindOk_two {s : RdS} {k : Nat} (h : 2 ≤ k) : kindOk s k = (decide (s.kind ≤ k) && decide (s.kind ≠ 0)) := by
  unfold kindOk
  have h0 : k ≠ 0 := by omega
  have h1 : k ≠ 1 := by omega
  simp [h0, h1]
theorem Mod.old {w w' : World} (B : Nat) (h : New w w') : Mod (fun k => B ≤ k) w w' := Mod.mono h (fun _ _ e => e.elim)

set_option maxRecDepth 100000 in
set_option maxHeartbeats 700000 in
theorem rd_line (line : ByteArray) (B rb m : Nat) (s : RdS) (w w0 : World) (h : RdAt w B rb s) (hsm : RdSmall m s) (hm : m ≤ 9001) (hB0 : w0.heap.size ≤ B) (hB : B ≤ w.heap.size) (hs : line.size ≤ 9000) (hx0 : MaxLn w0) (hx : MaxLn w) :
    Calls Tryz.prog 28 #[.pointer (some ⟨rb, 0, none⟩), .string line] w (RRdLine line B rb s w) := by
  have hcut := cut_at line 32 w (by omega) hx
  have e1 : (⟨(cutL 32 line.data.toList).1.toArray⟩ : ByteArray) = wd line := rfl
  have e2 : (⟨(cutL 32 line.data.toList).2.1.toArray⟩ : ByteArray) = restW line := rfl
  have e3 : (cutL 32 line.data.toList).2.2 = hasSp line := rfl
  rw [e1, e2, e3] at hcut
  clear e1 e2 e3
  have hrz := restW_le line
  obtain ⟨kd, hkd⟩ : ∃ kd, lineKind line = kd := ⟨_, rfl⟩
  have hk4 : kd ≤ 4 := by rw [← hkd]; exact kindW_le _
  obtain ⟨ki, hki⟩ : ∃ ki, Lib.idxOfS kinds5q (wd line) = ki := ⟨_, rfl⟩
  have hik : (kd = 0 → ki < 1) ∧ (kd ≠ 0 → ki = kd) := by
    rw [← hki, ← hkd, lineKind_eq]
    exact ⟨kindW_zero, kindW_pos⟩
  have hsk := hsm.kind
  have HNO : Hid (∀ w', stepR s line = none → Mod (fun k => B ≤ k) w w' → RRdLine line B rb s w (.returned (.bool false)) w') := Lib.hid (fun w' h1 h2 => .no h1 h2)
  have HBAD : Hid (kindOk s kd = false → stepR s line = none) := Lib.hid (fun h => stepR_bad (by rw [hkd]; exact h))
  have HND : Hid (kindOk s kd = true → kd = 4 → stepR s line = (needOf (restW line)).map fun p => ⟨onLast (fun r => { r with needs := r.needs ++ [p] }) s.out, 4⟩) := Lib.hid (fun h h4 => stepR_need (by rw [hkd]; exact h) (by rw [hkd]; exact h4))
  have HWD : Hid (kindOk s kd = true → kd ≠ 4 → stepR s line = if Lib.containsS (pieces (restW line) sp) ⟨#[]⟩ then none else stepW s kd (pieces (restW line) sp)) := Lib.hid (fun h h4 => by rw [← hkd]; exact stepR_words (by rw [hkd]; exact h) (by rw [hkd]; exact h4))
  have HSM := Lib.hid hsm
  have HX0 := Lib.hid hx0
  have HXW := Lib.hid hx
  have HR := Lib.hid h
  obtain ⟨okk, hokk⟩ : ∃ q, kindOk s kd = q := ⟨_, rfl⟩
  have HOK := Lib.hid hokk
  clear hkd hsm hx0 hx h hokk
  generalize restW line = rest at *
  generalize hasSp line = has at *
  generalize hwd : wd line = word at *
  clear hwd
  go_enter Tryz.func28, Tryz.ntmps28
  go_wp2_with fail
  refine hcut.mono ?_
  clear hcut
  rintro e w1 ⟨rfl, m1⟩
  have HR1 := Lib.hid (HR.out.new m1)
  have HM1 := Lib.hid (Mod.old B m1)
  have HX1 := Lib.hid (HXW.out.new m1)
  have hB1 : B ≤ w1.heap.size := by have := m1.size; omega
  clear m1 HR
  have hbk := Blk.new w1 9 (strCs kinds5q)
  have hix := Tryz.slices_Index_string w1.heap.size 0 5 5 kinds5q word (w1.alloc (.cells (strCs kinds5q) 9)) (by decide) (by omega) (fun j hj => by rw [Nat.zero_add]; exact strs_at hbk j hj)
  rw [List.take_of_length_le (by decide), hki] at hix
  have hm3 : New w1 (w1.alloc (.cells (strCs kinds5q) 9)) := (Mod.refl _ _).alloc _
  unfold strCs kinds5q kinds4q at hix hm3
  simp only [List.map_cons, List.map_nil] at hix hm3
  clear hbk hki
  go_wp2_with fail
  refine hix.mono ?_
  clear hix
  rintro e w3 ⟨rfl, rfl⟩
  have HR3 := Lib.hid (HR1.out.new hm3)
  have HM3 := Lib.hid (HM1.out.trans (Mod.old B hm3))
  have HX3 := Lib.hid (HX1.out.new hm3)
  have hB3 : B ≤ (w1.alloc (.cells #[.string ⟨#[]⟩, .string ⟨#[114, 111, 117, 116, 101]⟩, .string ⟨#[104, 111, 115, 116]⟩, .string ⟨#[109, 101, 116, 104, 111, 100]⟩, .string ⟨#[110, 101, 101, 100]⟩] 9)).heap.size := by have := hm3.size; omega
  clear hm3 HR1 HM1 HX1 hB1
  generalize w1.alloc (.cells #[.string ⟨#[]⟩, .string ⟨#[114, 111, 117, 116, 101]⟩, .string ⟨#[104, 111, 115, 116]⟩, .string ⟨#[109, 101, 116, 104, 111, 100]⟩, .string ⟨#[110, 101, 101, 100]⟩] 9) = w3 at *
  obtain ⟨hBr, A, n, c, hb, hrr⟩ := HR3.out
  have HBR := Lib.hid hBr
  have HB3 := Lib.hid hb
  have HRR := Lib.hid hrr
  have c1 := hb.cell 1
  have cl := hb.lt
  simp only [List.getElem?_toArray, List.getElem?_cons_zero, List.getElem?_cons_succ] at c1
  clear HR3 hBr hb hrr
  go_upto_region 3 with (fail)
  go_cut [46] (fun s46 wx => s46 = .bool (!okk) ∧ wx = w3)
  case first =>
    by_cases k0 : kd = 0
    · have a1 : ki < 1 := hik.1 k0
      have HQ : Hid (okk = false) := Lib.hid (by rw [← HOK.out, k0]; rfl)
      clear k0 hik
      go_wp2_with fail
      go_meet
      case rel => exact ⟨by rw [HQ.out]; rfl, rfl⟩
    · obtain rfl := hik.2 k0
      have a1 : ¬ (kd : Int) < 1 := by omega
      by_cases k1 : kd = 1
      · subst k1
        have HQ : Hid (okk = true) := Lib.hid (by rw [← HOK.out]; rfl)
        clear k0 hik
        go_wp2_with fail
        go_meet
        case rel => exact ⟨by rw [HQ.out]; rfl, rfl⟩
      · have a2 : ((kd : Int) != 1) = true := by simp; omega
        have HQ : Hid (okk = (decide (s.kind ≤ kd) && decide (s.kind ≠ 0))) := Lib.hid (by rw [← HOK.out, kindOk_two (by omega)])
        clear hik
        by_cases k2 : kd < s.kind
        · have a3 : (kd : Int) < s.kind := by omega
          have HQ2 : Hid (okk = false) := Lib.hid (by rw [HQ.out, decide_eq_false (by omega)]; rfl)
          clear k0 k1 k2
          go_wp2_with fail
          go_meet
          case rel => exact ⟨by rw [HQ2.out]; rfl, rfl⟩
        · have a3 : ¬ (kd : Int) < s.kind := by omega
          by_cases k3 : s.kind = 0
          · have a4 : ((s.kind : Int) == 0) = true := by simp; omega
            have HQ2 : Hid (okk = false) := Lib.hid (by rw [HQ.out, k3]; simp)
            clear k0 k1 k2 k3
            go_wp2_with fail
            go_meet
            case rel => exact ⟨by rw [HQ2.out]; rfl, rfl⟩
          · have a4 : ((s.kind : Int) == 0) = false := by simp; omega
            have HQ2 : Hid (okk = true) := Lib.hid (by rw [HQ.out, decide_eq_true (by omega)]; simpa using k3)
            clear k0 k1 k2 k3
            go_wp2_with fail
            go_meet
            case rel => exact ⟨by rw [HQ2.out]; rfl, rfl⟩
  case rest =>
    rename World => wx
    obtain ⟨rfl, rfl⟩ := hcut
    cases okk
    · go_wp2_with fail
      go_ret
      exact HNO.out _ (HBAD.out HOK.out) HM3.out
    · have hkp := kindOk_parts HOK.out
      obtain rfl := hik.2 hkp.1
      have HND2 := Lib.hid (HND.out HOK.out)
      have HWD2 := Lib.hid (HWD.out HOK.out)
      have hk1 : 1 ≤ kd := by have := hkp.1; omega
      have HKK := Lib.hid hkp.2
      clear hik hkp HND HWD HBAD HOK
      have cf := HB3.out.frozen 1
      have HS4 : Hid (Mod (fun k => k = rb) wx (wx.setCell ⟨rb, 1, none⟩ (.int .i64 kd))) := Lib.hid (Mod.setCell (S := fun k => k = rb) (p := ⟨rb, 1, none⟩) (Mod.refl _ _) (.inl rfl) _)
      have HB4 : Hid (Blk (wx.setCell ⟨rb, 1, none⟩ (.int .i64 kd)) rb 66 #[.slice A n c, .int .i64 kd]) := Lib.hid (by simpa using HB3.out.set 1 (.int .i64 kd))
      have HR4 : Hid (RdRows (wx.setCell ⟨rb, 1, none⟩ (.int .i64 kd)) B A n c s.out) := Lib.hid (HRR.out.mod HS4.out (fun k _ ht e => by
        rcases ht with ht | ht | ht
        · exact ht.ne HB3.out.tb (by decide) e
        · exact ht.ne HB3.out.tb (by decide) e
        · exact ht.ne HB3.out.tb (by decide) e))
      have HM4 : Hid (Mod (fun k => B ≤ k) w (wx.setCell ⟨rb, 1, none⟩ (.int .i64 kd))) := Lib.hid (HM3.out.trans (Mod.mono HS4.out (fun i _ e => by have := HBR.out; omega)))
      have HX4 : Hid (MaxLn (wx.setCell ⟨rb, 1, none⟩ (.int .i64 kd))) := Lib.hid (HX0.out.mod HX3.out HS4.out (fun g hg e => by have := HBR.out; omega))
      have hB4 : B ≤ (wx.setCell ⟨rb, 1, none⟩ (.int .i64 kd)).heap.size := by have := HS4.out.size; omega
      go_upto_region 6 with (fail)
      clear c1 cl cf HS4 HB3 HRR HM3 HX3 hB3
      generalize wx.setCell ⟨rb, 1, none⟩ (.int .i64 kd) = w4 at *
      by_cases k4 : kd = 4
      · subst k4
        have HND := Lib.hid (HND2.out rfl)
        have hne : s.out ≠ [] := fun e => (HKK.out (by omega)).2 (HSM.out.zero.2 e)
        have hnd := rd_need rest B rb s.out w4 ⟨HBR.out, A, n, c, HB4.out, HR4.out⟩ hne (fun r hr => by have := (HSM.out.each r hr).needs.1; omega) (by have := HSM.out.out; omega) hB4 (by omega) HX4.out
        have HYES : Hid (∀ e w', RNeed rest B rb s.out w4 e w' → RRdLine line B rb s w e w') := Lib.hid (fun e w' ⟨h1, h2, h3⟩ => by
          subst h1
          cases hq : needOf rest with
          | none => rw [hq] at h3; exact .no (by rw [HND.out, hq]; rfl) (HM4.out.trans h2)
          | some p => exact .yes (by rw [HND.out, hq]; rfl) (HM4.out.trans h2) (h3 p hq))
        clear hne HND2 HWD2 HKK HND HNO
        go_wp2_with fail
        refine hnd.mono ?_
        clear hnd
        rintro e w5 hr5
        obtain ⟨rfl, hm5, hk5⟩ := hr5
        have HF := Lib.hid (HYES.out _ w5 ⟨rfl, hm5, hk5⟩)
        clear hm5 hk5
        generalize (needOf rest).isSome = bq at *
        go_wp2_with fail
        go_ret
        exact HF.out
      · have HWD := Lib.hid (HWD2.out k4)
        have k4b : ((kd : Int) == 4) = false := by simp; omega
        have hkw := kit_words rest w4 (by omega) HX4.out
        have hP0 : pieces rest sp ≠ [] := pieces_ne (Nat.le_refl _)
        have HPZ := Lib.hid (fun x (h : x ∈ pieces rest sp) => Nat.le_trans (pieces_le h) hrz)
        have hPL : (pieces rest sp).length ≤ 9001 := by
          rw [pieces_length (show 1 ≤ (sp : ByteArray).size from Nat.le_refl _)]
          have := Lib.countB_le sp (Nat.le_refl _) rest.size rest (Nat.le_refl _)
          omega
        clear HND2 HWD2
        generalize pieces rest sp = P at *
        obtain ⟨cs, hcs⟩ : ∃ q, Lib.containsS P ⟨#[]⟩ = q := ⟨_, rfl⟩
        rw [hcs] at hkw HWD
        clear hcs
        cases cs
        rotate_left
        · go_wp2_with fail
          refine hkw.mono ?_
          clear hkw
          rintro e w5 ⟨rfl, rfl⟩
          go_wp2_with fail
          go_ret
          exact HNO.out _ (by rw [HWD.out]; rfl) (HM4.out.alloc _)
        have HW : Hid (stepR s line = stepW s kd P) := Lib.hid (by rw [HWD.out]; rfl)
        clear HWD
        by_cases k1 : kd = 1
        · subst k1
          obtain _ | ⟨a, _ | ⟨b2, _ | ⟨c3, _ | ⟨d4, P⟩⟩⟩⟩ := P
          · exact absurd rfl hP0
          · have e1 : [a].length = 1 := rfl
            rw [e1] at hkw
            go_wp2_with fail
            refine hkw.mono ?_
            clear hkw
            rintro e w5 ⟨rfl, rfl⟩
            go_wp2_with fail
            go_ret
            exact HNO.out _ (by rw [HW.out]; rfl) (HM4.out.alloc _)
          · have e2 : [a, b2].length = 2 := rfl
            rw [e2] at hkw
            go_wp2_with fail
            refine hkw.mono ?_
            clear hkw
            rintro e w5 ⟨rfl, hw5⟩
            have HB5 := Lib.hid (HB4.out.mod (show New w4 w5 by rw [hw5]; exact (Mod.refl _ _).alloc _) (fun e => e))
            have HR5 := Lib.hid (HR4.out.new (show New w4 w5 by rw [hw5]; exact (Mod.refl _ _).alloc _))
            have HM5 : Hid (Mod (fun k => B ≤ k) w w5) := Lib.hid (by rw [hw5]; exact HM4.out.alloc _)
            have HP5 : Hid (Blk w5 w4.heap.size 9 #[.string a, .string b2]) := Lib.hid (by rw [hw5]; exact Blk.new _ _ _)
            have hB5 : B ≤ w5.heap.size := by rw [hw5]; simp; omega
            have HAB : Hid (∀ k, blkOf A = some k → k < w5.heap.size) := Lib.hid (fun k e => by
              obtain ⟨xs, hox, _⟩ := HR5.out.own
              exact (hox.blk_tb e).2.lt)
            clear hw5 HB4 HR4 HM4 HX4
            generalize w4.heap.size = pb at *
            have p0 := HP5.out.cell 0
            have p1 := HP5.out.cell 1
            have pl := HP5.out.lt
            simp only [List.getElem?_toArray, List.getElem?_cons_zero, List.getElem?_cons_succ] at p0 p1
            go_upto_region 14 with (fail)
            have HSC : Hid (∀ W, New w5 W → W.cell? ⟨pb, 0, none⟩ = some (.string a) ∧ W.cell? ⟨pb, 1, none⟩ = some (.string b2) ∧ pb < W.heap.size) := Lib.hid (fun W h => by
              have hb := HP5.out.mod h (fun e => e)
              exact ⟨(hb.cell 0).trans rfl, (hb.cell 1).trans rfl, hb.lt⟩)
            clear p0 p1 pl
            go_cut [11] (fun s11 wx => ∃ xb, s11 = .pointer (some ⟨xb, 0, none⟩) ∧ w5.heap.size ≤ xb ∧ Blk wx xb 44 #[.string a, .slice none 0 0, .string b2, .slice none 0 0, .slice none 0 0, .string ⟨#[]⟩] ∧ New w5 wx)
            case first =>
              go_region_held3 (fun W => W.cell? ⟨pb, 0, none⟩ = some (.string a) ∧ W.cell? ⟨pb, 1, none⟩ = some (.string b2) ∧ pb < W.heap.size)
                ((refine HSC.out _ ?_; with_reducible (repeat' (first | assumption | exact Mod.refl _ _ | refine Mod.drewN ?_ _ | refine Mod.drew ?_ | refine Mod.alloc ?_ _ | refine Mod.setCell ?_ (Or.inr ?_) _)); all_goals (first | done | (simp; done) | (simp; omega))))
                (fail)
              all_goals go_wp2_with fail
              all_goals go_meet
              exact ⟨_, rfl, Nat.le_refl _, (Blk.new w5 _ _).mod ((Mod.refl (fun _ => False) _).drew) (fun e => e), ((Mod.refl _ w5).alloc _).drew⟩
            case rest =>
              rename World => w6
              obtain ⟨xb, rfl, hxz, hbx, hnx⟩ := hcut
              have HXN : Hid (∀ k, blkOf A = some k → k ≠ xb) := Lib.hid (fun k e => by have := HAB.out k e; omega)
              have HXB := Lib.hid hbx
              have HN6 := Lib.hid hnx
              clear hbx hnx
              have HYES : Hid (∀ w', Mod (fun k => B ≤ k) w w' → RdAt w' B rb ⟨s.out ++ [⟨a, [], b2, [], [], ⟨#[]⟩⟩], 1⟩ → RRdLine line B rb s w (.returned (.bool true)) w') := Lib.hid (fun w' h1 h2 => .yes (by rw [HW.out]; rfl) h1 h2)
              have HB6 := Lib.hid (HB5.out.mod HN6.out (fun e => e))
              have HR6 := Lib.hid (HR5.out.new HN6.out)
              have HM6 : Hid (Mod (fun k => B ≤ k) w w6) := Lib.hid (HM5.out.trans (Mod.old B HN6.out))
              have hB6 : B ≤ w6.heap.size := by have := HN6.out.size; omega
              clear HB5 HR5 HP5 HM5 hB5 HN6
              obtain ⟨xs, hox, hax⟩ := HR6.out.own
              have hnl : n ≤ 9001 := by have := HR6.out.len; have := HSM.out.out; omega
              have HNX : Hid (∀ k, blkOf A = some k → k ≠ xb) := HXN
              have HSC : Hid (∀ W, New w6 W → W.cell? ⟨rb, 0, none⟩ = some (.slice A n c) ∧ W.cell? ⟨xb, 0, none⟩ = some (.string a) ∧ W.cell? ⟨xb, 1, none⟩ = some (.slice none 0 0) ∧ W.cell? ⟨xb, 2, none⟩ = some (.string b2) ∧ W.cell? ⟨xb, 3, none⟩ = some (.slice none 0 0) ∧ W.cell? ⟨xb, 4, none⟩ = some (.slice none 0 0) ∧ W.cell? ⟨xb, 5, none⟩ = some (.string ⟨#[]⟩) ∧ rb < W.heap.size ∧ xb < W.heap.size) := Lib.hid (fun W h => by
                have h1 := HB6.out.mod h (fun e => e)
                have h2 := HXB.out.mod h (fun e => e)
                exact ⟨(h1.cell 0).trans rfl, (h2.cell 0).trans rfl, (h2.cell 1).trans rfl, (h2.cell 2).trans rfl, (h2.cell 3).trans rfl, (h2.cell 4).trans rfl, (h2.cell 5).trans rfl, h1.lt, h2.lt⟩)
              go_upto_region 17 with (fail)
              refine wp_region_held_ord (fun W => W.cell? ⟨rb, 0, none⟩ = some (.slice A n c) ∧ W.cell? ⟨xb, 0, none⟩ = some (.string a) ∧ W.cell? ⟨xb, 1, none⟩ = some (.slice none 0 0) ∧ W.cell? ⟨xb, 2, none⟩ = some (.string b2) ∧ W.cell? ⟨xb, 3, none⟩ = some (.slice none 0 0) ∧ W.cell? ⟨xb, 4, none⟩ = some (.slice none 0 0) ∧ W.cell? ⟨xb, 5, none⟩ = some (.string ⟨#[]⟩) ∧ rb < W.heap.size ∧ xb < W.heap.size) [6, 7] [0, 1, 2, 3, 4, 5, 6, 7] (by kernel_rfl) (by kernel_rfl) (fun _ _ d _ _ h => by cases d <;> exact h) ?_ (fun hHeld => ?_)
              · exact HSC.out _ (Mod.refl _ _).drew
              simp only [List.length_cons, List.length_nil, List.drop_succ_cons, List.drop_zero]
              refine heldO_take ?_ (by rfl) (by rfl) (by rfl) (fun w hSw => ?_) ?_
              rotate_left
              · (try dsimp only at hSw); go_simp; any_goals (with_reducible rfl)
              simp only [Act.put, List.setIfInBounds_toArray, List.set_cons_zero, List.set_cons_succ]
              refine heldO_take ?_ (by rfl) (by rfl) (by rfl) (fun w hSw => ?_) ?_
              rotate_left
              · (try dsimp only at hSw); go_simp; any_goals (with_reducible rfl)
              simp only [Act.put, List.setIfInBounds_toArray, List.set_cons_zero, List.set_cons_succ]
              refine heldO_take ?_ (by rfl) (by rfl) (by rfl) (fun w hSw => ?_) ?_
              rotate_left
              · (try dsimp only at hSw); go_simp; any_goals (with_reducible rfl)
              simp only [Act.put, List.setIfInBounds_toArray, List.set_cons_zero, List.set_cons_succ]
              refine heldO_take ?_ (by rfl) (by rfl) (by rfl) (fun w hSw => ?_) ?_
              rotate_left
              · (try dsimp only at hSw); go_simp; any_goals (with_reducible rfl)
              simp only [Act.put, List.setIfInBounds_toArray, List.set_cons_zero, List.set_cons_succ]
              refine heldO_take ?_ (by rfl) (by rfl) (by rfl) (fun w hSw => ?_) ?_
              rotate_left
              · (try dsimp only at hSw); go_simp; any_goals (with_reducible rfl)
              simp only [Act.put, List.setIfInBounds_toArray, List.set_cons_zero, List.set_cons_succ]
              refine heldO_take ?_ (by rfl) (by rfl) (by rfl) (fun w hSw => ?_) ?_
              rotate_left
              · (try dsimp only at hSw); go_simp; any_goals (with_reducible rfl)
              simp only [Act.put, List.setIfInBounds_toArray, List.set_cons_zero, List.set_cons_succ]
              refine heldO_step (by rfl) (by rfl) (by rfl) (fun K hK => ?_)
              go_simp
              have m6 : New w6 (w6.alloc (.cells #[.string a, .slice none 0 0, .string b2, .slice none 0 0, .slice none 0 0, .string ⟨#[]⟩] 44)).drew := ((Mod.refl _ w6).alloc _).drew
              refine hK.out _ _ (HSC.out _ m6) (fun hHeld => ?_)
              clear hK K hHeld
              try simp only [Act.put, List.setIfInBounds_toArray, List.set_cons_zero, List.set_cons_succ]
              have own6 := hox.new m6
              have blk6 : Blk (w6.alloc (.cells #[.string a, .slice none 0 0, .string b2, .slice none 0 0, .slice none 0 0, .string ⟨#[]⟩] 44)).drew w6.heap.size 44 (encL 6 RA.enc ⟨a, none, 0, 0, b2, none, 0, 0, none, 0, 0, ⟨#[]⟩⟩).toArray := (Blk.new w6 _ _).mod ((Mod.refl (fun _ => False) _).drew) (fun e => e)
              have HZ : Hid (B ≤ (w6.alloc (.cells #[.string a, .slice none 0 0, .string b2, .slice none 0 0, .slice none 0 0, .string ⟨#[]⟩] 44)).drew.heap.size) := Lib.hid (by have := m6.size; omega)
              have HOA := Lib.hid own6
              have HAX := Lib.hid (hax.imp (fun _ _ q => q.new m6))
              refine heldO_step (by rfl) (by rfl) (by rfl) (fun K hK => ?_)
              refine wp_push (.tmp 91) (.tmp 93) _ rfl 120 Tryz.underlying26 einfo_rt rfl (by exact own6) ⟨a, none, 0, 0, b2, none, 0, 0, none, 0, 0, ⟨#[]⟩⟩ w6.heap.size rfl (by exact blk6) (fun j hj => RA.one _ j hj) (by omega) (by omega) HZ.out ?_
              intro g9 cap9 w9 own9 hm9 hat9 hlt9
              have hb9 := (HB6.out.mod m6 (fun e => e)).mod hm9 (fun e => (HOA.out.blk_tb e).2.ne (HB6.out.mod m6 (fun e => e)).tb (by decide) rfl)
              have hx9 := (HXB.out.mod m6 (fun e => e)).mod hm9 (fun e => HNX.out _ e rfl)
              have HM9 : Hid (Mod (fun k => B ≤ k) w w9) := Lib.hid ((HM6.out.trans (Mod.old B m6)).step hm9 (fun i hi e => (HOA.out.blk_tb e).1))
              have HRW : Hid (RdRows w9 B (some ⟨g9, 0, none⟩) (n + 1) cap9 (s.out ++ [⟨a, [], b2, [], [], ⟨#[]⟩⟩])) := Lib.hid (RdRows.push HOA.out HAX.out own9 hm9 ⟨rfl, rfl, rfl⟩ ⟨rfl, rfl, rfl, rfl, rfl, rfl, rfl, rfl, rfl⟩ ⟨rfl, rfl, rfl⟩)
              refine hK.out _ _ ⟨(hb9.cell 0).trans rfl, (hx9.cell 0).trans rfl, (hx9.cell 1).trans rfl, (hx9.cell 2).trans rfl, (hx9.cell 3).trans rfl, (hx9.cell 4).trans rfl, (hx9.cell 5).trans rfl, hb9.lt, hx9.lt⟩ (fun hHeld => ?_)
              clear hK K hHeld
              try simp only [Act.put, List.setIfInBounds_toArray, List.set_cons_zero, List.set_cons_succ]
              refine heldO_nil ?_
              have HFIN : Hid (RRdLine line B rb s w (.returned (.bool true)) (w9.setCell ⟨rb, 0, none⟩ (.slice (some ⟨g9, 0, none⟩) (n + 1) cap9))) := Lib.hid (HYES.out _ (Mod.setCell (p := ⟨rb, 0, none⟩) HM9.out (.inl HBR.out) _) ⟨HBR.out, some ⟨g9, 0, none⟩, n + 1, cap9, by simpa using hb9.set 0 (.slice (some ⟨g9, 0, none⟩) (n + 1) cap9), HRW.out.mod (Mod.setCell (S := fun k => k = rb) (p := ⟨rb, 0, none⟩) (Mod.refl _ w9) (.inl rfl) _) (fun k _ ht e => by
                rcases ht with ht | ht | ht
                · exact ht.ne hb9.tb (by decide) e
                · exact ht.ne hb9.tb (by decide) e
                · exact ht.ne hb9.tb (by decide) e)⟩)
              have c09 := hb9.cell 0
              have cf9 := hb9.frozen 0
              have cl9 := hb9.lt
              simp only [List.getElem?_toArray, List.getElem?_cons_zero, List.getElem?_cons_succ] at c09
              clear own6 blk6 hb9 hx9 hm9 hat9 own9 m6 HZ hox hax
              go_wp2_with fail
              go_ret
              exact HFIN.out
          · have e2 : [a, b2, c3].length = 3 := rfl
            rw [e2] at hkw
            go_wp2_with fail
            refine hkw.mono ?_
            clear hkw
            rintro e w5 ⟨rfl, hw5⟩
            have HB5 := Lib.hid (HB4.out.mod (show New w4 w5 by rw [hw5]; exact (Mod.refl _ _).alloc _) (fun e => e))
            have HR5 := Lib.hid (HR4.out.new (show New w4 w5 by rw [hw5]; exact (Mod.refl _ _).alloc _))
            have HM5 : Hid (Mod (fun k => B ≤ k) w w5) := Lib.hid (by rw [hw5]; exact HM4.out.alloc _)
            have HP5 : Hid (Blk w5 w4.heap.size 9 #[.string a, .string b2, .string c3]) := Lib.hid (by rw [hw5]; exact Blk.new _ _ _)
            have hB5 : B ≤ w5.heap.size := by rw [hw5]; simp; omega
            have HAB : Hid (∀ k, blkOf A = some k → k < w5.heap.size) := Lib.hid (fun k e => by
              obtain ⟨xs, hox, _⟩ := HR5.out.own
              exact (hox.blk_tb e).2.lt)
            clear hw5 HB4 HR4 HM4 HX4
            generalize w4.heap.size = pb at *
            have p0 := HP5.out.cell 0
            have p1 := HP5.out.cell 1
            have pl := HP5.out.lt
            simp only [List.getElem?_toArray, List.getElem?_cons_zero, List.getElem?_cons_succ] at p0 p1
            go_upto_region 14 with (fail)
            have HSC : Hid (∀ W, New w5 W → W.cell? ⟨pb, 0, none⟩ = some (.string a) ∧ W.cell? ⟨pb, 1, none⟩ = some (.string b2) ∧ pb < W.heap.size) := Lib.hid (fun W h => by
              have hb := HP5.out.mod h (fun e => e)
              exact ⟨(hb.cell 0).trans rfl, (hb.cell 1).trans rfl, hb.lt⟩)
            clear p0 p1 pl
            go_cut [11] (fun s11 wx => ∃ xb, s11 = .pointer (some ⟨xb, 0, none⟩) ∧ w5.heap.size ≤ xb ∧ Blk wx xb 44 #[.string a, .slice none 0 0, .string b2, .slice none 0 0, .slice none 0 0, .string ⟨#[]⟩] ∧ New w5 wx)
            case first =>
              go_region_held3 (fun W => W.cell? ⟨pb, 0, none⟩ = some (.string a) ∧ W.cell? ⟨pb, 1, none⟩ = some (.string b2) ∧ pb < W.heap.size)
                ((refine HSC.out _ ?_; with_reducible (repeat' (first | assumption | exact Mod.refl _ _ | refine Mod.drewN ?_ _ | refine Mod.drew ?_ | refine Mod.alloc ?_ _ | refine Mod.setCell ?_ (Or.inr ?_) _)); all_goals (first | done | (simp; done) | (simp; omega))))
                (fail)
              all_goals go_wp2_with fail
              all_goals go_meet
              exact ⟨_, rfl, Nat.le_refl _, (Blk.new w5 _ _).mod ((Mod.refl (fun _ => False) _).drew) (fun e => e), ((Mod.refl _ w5).alloc _).drew⟩
            case rest =>
              rename World => w6
              obtain ⟨xb, rfl, hxz, hbx, hnx⟩ := hcut
              have HXN : Hid (∀ k, blkOf A = some k → k ≠ xb) := Lib.hid (fun k e => by have := HAB.out k e; omega)
              have HXB := Lib.hid hbx
              have HN6 := Lib.hid hnx
              clear hbx hnx
              have HYES : Hid (∀ w', Mod (fun k => B ≤ k) w w' → RdAt w' B rb ⟨s.out ++ [⟨a, [], b2, [], [], c3⟩], 1⟩ → RRdLine line B rb s w (.returned (.bool true)) w') := Lib.hid (fun w' h1 h2 => .yes (by rw [HW.out]; rfl) h1 h2)
              go_upto_region 16 with (fail)
              have p2 := (HP5.out.mod HN6.out (fun e => e)).cell 2
              have pl := (HP5.out.mod HN6.out (fun e => e)).lt
              have x5 := HXB.out.cell 5
              have xf := HXB.out.frozen 5
              have xl := HXB.out.lt
              simp only [List.getElem?_toArray, List.getElem?_cons_zero, List.getElem?_cons_succ] at p2 x5
              have HN7 : Hid (New w5 (w6.setCell ⟨xb, 5, none⟩ (.string c3))) := Lib.hid (Mod.setCell (p := ⟨xb, 5, none⟩) HN6.out (.inr hxz) _)
              have HX7 : Hid (Blk (w6.setCell ⟨xb, 5, none⟩ (.string c3)) xb 44 #[.string a, .slice none 0 0, .string b2, .slice none 0 0, .slice none 0 0, .string c3]) := Lib.hid (by simpa using HXB.out.set 5 (.string c3))
              go_upto_region 17 with (fail)
              clear p2 pl x5 xf xl HN6 HXB
              generalize w6.setCell ⟨xb, 5, none⟩ (.string c3) = w7 at *
              have HN6 := HN7
              have HXB := HX7
              clear HN7 HX7
              rename World => w6
              have HB6 := Lib.hid (HB5.out.mod HN6.out (fun e => e))
              have HR6 := Lib.hid (HR5.out.new HN6.out)
              have HM6 : Hid (Mod (fun k => B ≤ k) w w6) := Lib.hid (HM5.out.trans (Mod.old B HN6.out))
              have hB6 : B ≤ w6.heap.size := by have := HN6.out.size; omega
              clear HB5 HR5 HP5 HM5 hB5 HN6
              obtain ⟨xs, hox, hax⟩ := HR6.out.own
              have hnl : n ≤ 9001 := by have := HR6.out.len; have := HSM.out.out; omega
              have HNX : Hid (∀ k, blkOf A = some k → k ≠ xb) := HXN
              have HSC : Hid (∀ W, New w6 W → W.cell? ⟨rb, 0, none⟩ = some (.slice A n c) ∧ W.cell? ⟨xb, 0, none⟩ = some (.string a) ∧ W.cell? ⟨xb, 1, none⟩ = some (.slice none 0 0) ∧ W.cell? ⟨xb, 2, none⟩ = some (.string b2) ∧ W.cell? ⟨xb, 3, none⟩ = some (.slice none 0 0) ∧ W.cell? ⟨xb, 4, none⟩ = some (.slice none 0 0) ∧ W.cell? ⟨xb, 5, none⟩ = some (.string c3) ∧ rb < W.heap.size ∧ xb < W.heap.size) := Lib.hid (fun W h => by
                have h1 := HB6.out.mod h (fun e => e)
                have h2 := HXB.out.mod h (fun e => e)
                exact ⟨(h1.cell 0).trans rfl, (h2.cell 0).trans rfl, (h2.cell 1).trans rfl, (h2.cell 2).trans rfl, (h2.cell 3).trans rfl, (h2.cell 4).trans rfl, (h2.cell 5).trans rfl, h1.lt, h2.lt⟩)
              go_upto_region 17 with (fail)
              refine wp_region_held_ord (fun W => W.cell? ⟨rb, 0, none⟩ = some (.slice A n c) ∧ W.cell? ⟨xb, 0, none⟩ = some (.string a) ∧ W.cell? ⟨xb, 1, none⟩ = some (.slice none 0 0) ∧ W.cell? ⟨xb, 2, none⟩ = some (.string b2) ∧ W.cell? ⟨xb, 3, none⟩ = some (.slice none 0 0) ∧ W.cell? ⟨xb, 4, none⟩ = some (.slice none 0 0) ∧ W.cell? ⟨xb, 5, none⟩ = some (.string c3) ∧ rb < W.heap.size ∧ xb < W.heap.size) [6, 7] [0, 1, 2, 3, 4, 5, 6, 7] (by kernel_rfl) (by kernel_rfl) (fun _ _ d _ _ h => by cases d <;> exact h) ?_ (fun hHeld => ?_)
              · exact HSC.out _ (Mod.refl _ _).drew
              simp only [List.length_cons, List.length_nil, List.drop_succ_cons, List.drop_zero]
              refine heldO_take ?_ (by rfl) (by rfl) (by rfl) (fun w hSw => ?_) ?_
              rotate_left
              · (try dsimp only at hSw); go_simp; any_goals (with_reducible rfl)
              simp only [Act.put, List.setIfInBounds_toArray, List.set_cons_zero, List.set_cons_succ]
              refine heldO_take ?_ (by rfl) (by rfl) (by rfl) (fun w hSw => ?_) ?_
              rotate_left
              · (try dsimp only at hSw); go_simp; any_goals (with_reducible rfl)
              simp only [Act.put, List.setIfInBounds_toArray, List.set_cons_zero, List.set_cons_succ]
              refine heldO_take ?_ (by rfl) (by rfl) (by rfl) (fun w hSw => ?_) ?_
              rotate_left
              · (try dsimp only at hSw); go_simp; any_goals (with_reducible rfl)
              simp only [Act.put, List.setIfInBounds_toArray, List.set_cons_zero, List.set_cons_succ]
              refine heldO_take ?_ (by rfl) (by rfl) (by rfl) (fun w hSw => ?_) ?_
              rotate_left
              · (try dsimp only at hSw); go_simp; any_goals (with_reducible rfl)
              simp only [Act.put, List.setIfInBounds_toArray, List.set_cons_zero, List.set_cons_succ]
              refine heldO_take ?_ (by rfl) (by rfl) (by rfl) (fun w hSw => ?_) ?_
              rotate_left
              · (try dsimp only at hSw); go_simp; any_goals (with_reducible rfl)
              simp only [Act.put, List.setIfInBounds_toArray, List.set_cons_zero, List.set_cons_succ]
              refine heldO_take ?_ (by rfl) (by rfl) (by rfl) (fun w hSw => ?_) ?_
              rotate_left
              · (try dsimp only at hSw); go_simp; any_goals (with_reducible rfl)
              simp only [Act.put, List.setIfInBounds_toArray, List.set_cons_zero, List.set_cons_succ]
              refine heldO_step (by rfl) (by rfl) (by rfl) (fun K hK => ?_)
              go_simp
              have m6 : New w6 (w6.alloc (.cells #[.string a, .slice none 0 0, .string b2, .slice none 0 0, .slice none 0 0, .string c3] 44)).drew := ((Mod.refl _ w6).alloc _).drew
              refine hK.out _ _ (HSC.out _ m6) (fun hHeld => ?_)
              clear hK K hHeld
              try simp only [Act.put, List.setIfInBounds_toArray, List.set_cons_zero, List.set_cons_succ]
              have own6 := hox.new m6
              have blk6 : Blk (w6.alloc (.cells #[.string a, .slice none 0 0, .string b2, .slice none 0 0, .slice none 0 0, .string c3] 44)).drew w6.heap.size 44 (encL 6 RA.enc ⟨a, none, 0, 0, b2, none, 0, 0, none, 0, 0, c3⟩).toArray := (Blk.new w6 _ _).mod ((Mod.refl (fun _ => False) _).drew) (fun e => e)
              have HZ : Hid (B ≤ (w6.alloc (.cells #[.string a, .slice none 0 0, .string b2, .slice none 0 0, .slice none 0 0, .string c3] 44)).drew.heap.size) := Lib.hid (by have := m6.size; omega)
              have HOA := Lib.hid own6
              have HAX := Lib.hid (hax.imp (fun _ _ q => q.new m6))
              refine heldO_step (by rfl) (by rfl) (by rfl) (fun K hK => ?_)
              refine wp_push (.tmp 91) (.tmp 93) _ rfl 120 Tryz.underlying26 einfo_rt rfl (by exact own6) ⟨a, none, 0, 0, b2, none, 0, 0, none, 0, 0, c3⟩ w6.heap.size rfl (by exact blk6) (fun j hj => RA.one _ j hj) (by omega) (by omega) HZ.out ?_
              intro g9 cap9 w9 own9 hm9 hat9 hlt9
              have hb9 := (HB6.out.mod m6 (fun e => e)).mod hm9 (fun e => (HOA.out.blk_tb e).2.ne (HB6.out.mod m6 (fun e => e)).tb (by decide) rfl)
              have hx9 := (HXB.out.mod m6 (fun e => e)).mod hm9 (fun e => HNX.out _ e rfl)
              have HM9 : Hid (Mod (fun k => B ≤ k) w w9) := Lib.hid ((HM6.out.trans (Mod.old B m6)).step hm9 (fun i hi e => (HOA.out.blk_tb e).1))
              have HRW : Hid (RdRows w9 B (some ⟨g9, 0, none⟩) (n + 1) cap9 (s.out ++ [⟨a, [], b2, [], [], c3⟩])) := Lib.hid (RdRows.push HOA.out HAX.out own9 hm9 ⟨rfl, rfl, rfl⟩ ⟨rfl, rfl, rfl, rfl, rfl, rfl, rfl, rfl, rfl⟩ ⟨rfl, rfl, rfl⟩)
              refine hK.out _ _ ⟨(hb9.cell 0).trans rfl, (hx9.cell 0).trans rfl, (hx9.cell 1).trans rfl, (hx9.cell 2).trans rfl, (hx9.cell 3).trans rfl, (hx9.cell 4).trans rfl, (hx9.cell 5).trans rfl, hb9.lt, hx9.lt⟩ (fun hHeld => ?_)
              clear hK K hHeld
              try simp only [Act.put, List.setIfInBounds_toArray, List.set_cons_zero, List.set_cons_succ]
              refine heldO_nil ?_
              have HFIN : Hid (RRdLine line B rb s w (.returned (.bool true)) (w9.setCell ⟨rb, 0, none⟩ (.slice (some ⟨g9, 0, none⟩) (n + 1) cap9))) := Lib.hid (HYES.out _ (Mod.setCell (p := ⟨rb, 0, none⟩) HM9.out (.inl HBR.out) _) ⟨HBR.out, some ⟨g9, 0, none⟩, n + 1, cap9, by simpa using hb9.set 0 (.slice (some ⟨g9, 0, none⟩) (n + 1) cap9), HRW.out.mod (Mod.setCell (S := fun k => k = rb) (p := ⟨rb, 0, none⟩) (Mod.refl _ w9) (.inl rfl) _) (fun k _ ht e => by
                rcases ht with ht | ht | ht
                · exact ht.ne hb9.tb (by decide) e
                · exact ht.ne hb9.tb (by decide) e
                · exact ht.ne hb9.tb (by decide) e)⟩)
              have c09 := hb9.cell 0
              have cf9 := hb9.frozen 0
              have cl9 := hb9.lt
              simp only [List.getElem?_toArray, List.getElem?_cons_zero, List.getElem?_cons_succ] at c09
              clear own6 blk6 hb9 hx9 hm9 hat9 own9 m6 HZ hox hax
              go_wp2_with fail
              go_ret
              exact HFIN.out
          · obtain ⟨N, hN, hN4⟩ : ∃ N, (a :: b2 :: c3 :: d4 :: P).length = N ∧ 4 ≤ N := ⟨_, rfl, by simp⟩
            rw [hN] at hkw
            have n2 : ((N : Int) != 2) = true := by simp; omega
            have n3 : ((N : Int) != 3) = true := by simp; omega
            clear hN
            go_wp2_with fail
            refine hkw.mono ?_
            clear hkw
            rintro e w5 ⟨rfl, rfl⟩
            go_wp2_with fail
            go_ret
            exact HNO.out _ (by rw [HW.out]; rfl) (HM4.out.alloc _)
        · obtain _ | ⟨a, P⟩ := P
          · exact absurd rfl hP0
          obtain ⟨N, hN⟩ : ∃ N, (a :: P).length = N := ⟨_, rfl⟩
          rw [hN] at hkw
          have hNp : 1 ≤ N := by rw [← hN]; simp
          have hNq : 0 < N := hNp
          have hNi : (0 : Int) < N := by omega
          have hne : s.out ≠ [] := fun e => (HKK.out k1).2 (HSM.out.zero.2 e)
          obtain ⟨g, pre, x, pout, r, hA, hout, hX⟩ := HR4.out.last hne
          subst hA
          have k1b : ((kd : Int) == 1) = false := by simp; omega
          have HX4' := Lib.hid hX
          obtain ⟨hn1, hn2⟩ := hX.num
          have hpl : pre.length ≤ 9001 := by have := HSM.out.out; rw [hout] at this; simp at this; omega
          clear hn2
          have HN := Lib.hid hN
          have HOUT := Lib.hid hout
          clear hX hne hN hout hP0 hPL HPZ
          go_wp2_with fail
          refine hkw.mono ?_
          clear hkw
          rintro e w5 ⟨rfl, hw5⟩
          have m5 : New w4 w5 := by rw [hw5]; exact (Mod.refl _ _).alloc _
          have HB5 := Lib.hid (HB4.out.mod m5 (fun e => e))
          have HX5 := Lib.hid (HX4'.out.mod m5 (fun _ _ _ e => e))
          have HM5 : Hid (Mod (fun k => B ≤ k) w w5) := Lib.hid (HM4.out.trans (Mod.old B m5))
          have HP5 : Hid (Blk w5 w4.heap.size 9 (strCs (a :: P))) := Lib.hid (by rw [hw5]; exact Blk.new _ _ _)
          have HAP : Hid (∀ k, HasB x k → k ≠ w4.heap.size) := Lib.hid (fun k e => by have := HX4'.out.last.has_lt e; omega)
          have hB5 : B ≤ w5.heap.size := by have := m5.size; omega
          clear hw5 m5 HB4 HR4 HM4 HX4 HX4'
          generalize w4.heap.size = pb at *
          have c0 := HB5.out.cell 0
          have cl := HB5.out.lt
          simp only [List.getElem?_toArray, List.getElem?_cons_zero, List.getElem?_cons_succ] at c0
          have i1 : (0 : Int) ≤ (n : Int) - 1 := by omega
          have i2 : (n : Int) - 1 < n := by omega
          go_wp2_with fail
          go_quiet (fail)
          rename_i nq
          have mq : New w5 (w5.drewN nq) := (Mod.refl _ _).drewN nq
          have HB6 := Lib.hid (HB5.out.mod mq (fun e => e))
          have HX6 := Lib.hid (HX5.out.mod mq (fun _ _ _ e => e))
          have HM6 := Lib.hid (HM5.out.trans (Mod.old B mq))
          have HP6 := Lib.hid (HP5.out.mod mq (fun e => e))
          have hB6 : B ≤ (w5.drewN nq).heap.size := by have := mq.size; omega
          clear mq HB5 HX5 HM5 HP5 hB5 c0 cl
          generalize w5.drewN nq = w6 at *
          have HB5 := HB6
          have HX5 := HX6
          have HM5 := HM6
          have HP5 := HP6
          have hB5 := hB6
          clear HB6 HX6 HM6 HP6 hB6
          rename World => w5
          have pl := HP5.out.lt
          by_cases k2 : kd = 2
          · subst k2
            have HEND : Hid (∀ w', Mod (fun k => B ≤ k) w w' → RdAt w' B rb ⟨pout ++ [{ r with hosts := r.hosts ++ [a] }], 2⟩ → RRdLine line B rb s w (.returned (.bool ((N : Int) == 1))) w') := Lib.hid (fun w' h1 h2 => by
              obtain _ | ⟨b2, P⟩ := P
              · obtain rfl : 1 = N := HN.out
                exact .yes (s1 := ⟨pout ++ [{ r with hosts := r.hosts ++ [a] }], 2⟩) (by
                  rw [HW.out]
                  show some (⟨onLast (fun r => { r with hosts := r.hosts ++ [a] }) s.out, 2⟩ : RdS) = _
                  rw [HOUT.out, onLast_snoc]) h1 h2
              · have e1 : ((N : Int) == 1) = false := by have := HN.out; simp at this ⊢; omega
                rw [e1]
                refine .no ?_ h1
                rw [HW.out]
                cases P with
                | nil => rfl
                | cons c P => cases P <;> rfl)
            have hfn : x.hn ≤ 9001 := by have h1 := HX5.out.last.hosts.1; have h2 := (HSM.out.each r (by rw [HOUT.out]; simp)).hosts.1; omega
            have HSC : Hid (∀ W, New w5 W → W.cell? ⟨g, pre.length * 6 + 1, none⟩ = some (.slice x.ha x.hn x.hc) ∧ W.cell? ⟨pb, 0, none⟩ = some (.string a) ∧ g < W.heap.size ∧ pb < W.heap.size) := Lib.hid (fun W h => by
              have h1 := HX5.out.mod h (fun _ _ _ e => e)
              have h2 := HP5.out.mod h (fun e => e)
              exact ⟨h1.cell (j := 1) (by decide), (h2.cell 0).trans (by unfold strCs; rfl), h1.tb.2.lt, h2.lt⟩)
            go_upto_region 21 with (fail)
            refine wp_region_held_ord (fun W => W.cell? ⟨g, pre.length * 6 + 1, none⟩ = some (.slice x.ha x.hn x.hc) ∧ W.cell? ⟨pb, 0, none⟩ = some (.string a) ∧ g < W.heap.size ∧ pb < W.heap.size) [8, 9] [0, 1, 2, 3, 4, 5, 6, 7, 8, 9] (by kernel_rfl) (by kernel_rfl) (fun _ _ d _ _ h => by cases d <;> exact h) ?_ (fun hHeld => ?_)
            · exact HSC.out _ (Mod.refl _ _).drew
            simp only [List.length_cons, List.length_nil, List.drop_succ_cons, List.drop_zero]
            refine heldO_take ?_ (by rfl) (by rfl) (by rfl) (fun w hSw => ?_) ?_
            rotate_left
            · (try dsimp only at hSw); go_simp; any_goals (with_reducible rfl)
            simp only [Act.put, List.setIfInBounds_toArray, List.set_cons_zero, List.set_cons_succ]
            refine heldO_take ?_ (by rfl) (by rfl) (by rfl) (fun w hSw => ?_) ?_
            rotate_left
            · (try dsimp only at hSw); go_simp; any_goals (with_reducible rfl)
            simp only [Act.put, List.setIfInBounds_toArray, List.set_cons_zero, List.set_cons_succ]
            refine heldO_take ?_ (by rfl) (by rfl) (by rfl) (fun w hSw => ?_) ?_
            rotate_left
            · (try dsimp only at hSw); go_simp; any_goals (with_reducible rfl)
            simp only [Act.put, List.setIfInBounds_toArray, List.set_cons_zero, List.set_cons_succ]
            refine heldO_take ?_ (by rfl) (by rfl) (by rfl) (fun w hSw => ?_) ?_
            rotate_left
            · (try dsimp only at hSw); go_simp; any_goals (with_reducible rfl)
            simp only [Act.put, List.setIfInBounds_toArray, List.set_cons_zero, List.set_cons_succ]
            refine heldO_take ?_ (by rfl) (by rfl) (by rfl) (fun w hSw => ?_) ?_
            rotate_left
            · (try dsimp only at hSw); go_simp; any_goals (with_reducible rfl)
            simp only [Act.put, List.setIfInBounds_toArray, List.set_cons_zero, List.set_cons_succ]
            refine heldO_take ?_ (by rfl) (by rfl) (by rfl) (fun w hSw => ?_) ?_
            rotate_left
            · (try dsimp only at hSw); go_simp; any_goals (with_reducible rfl)
            simp only [Act.put, List.setIfInBounds_toArray, List.set_cons_zero, List.set_cons_succ]
            refine heldO_take ?_ (by rfl) (by rfl) (by rfl) (fun w hSw => ?_) ?_
            rotate_left
            · (try dsimp only at hSw); go_simp; any_goals (with_reducible rfl)
            simp only [Act.put, List.setIfInBounds_toArray, List.set_cons_zero, List.set_cons_succ]
            refine heldO_take ?_ (by rfl) (by rfl) (by rfl) (fun w hSw => ?_) ?_
            rotate_left
            · (try dsimp only at hSw); go_simp; any_goals (with_reducible rfl)
            simp only [Act.put, List.setIfInBounds_toArray, List.set_cons_zero, List.set_cons_succ]
            refine heldO_step (by rfl) (by rfl) (by rfl) (fun K hK => ?_)
            go_simp
            have m6 : New w5 (w5.alloc (.cells #[.string a] 9)).drew := ((Mod.refl _ w5).alloc _).drew
            refine hK.out _ _ (HSC.out _ m6) (fun hHeld => ?_)
            clear hK K hHeld
            try simp only [Act.put, List.setIfInBounds_toArray, List.set_cons_zero, List.set_cons_succ]
            have HX6 := Lib.hid (HX5.out.mod m6 (fun _ _ _ e => e))
            have HB6 := Lib.hid (HB5.out.mod m6 (fun e => e))
            have HP6 := Lib.hid (HP5.out.mod m6 (fun e => e))
            have own6 := HX6.out.last.hosts
            have blk6 : Blk (w5.alloc (.cells #[.string a] 9)).drew w5.heap.size 9 (encL 1 sEnc a).toArray := (Blk.new w5 _ _).mod ((Mod.refl (fun _ => False) _).drew) (fun e => e)
            have HZ : Hid (B ≤ (w5.alloc (.cells #[.string a] 9)).drew.heap.size) := Lib.hid (by have := m6.size; omega)
            have HM6 := Lib.hid (HM5.out.trans (Mod.old B m6))
            refine heldO_step (by rfl) (by rfl) (by rfl) (fun K hK => ?_)
            refine wp_push (.tmp 114) (.tmp 118) _ rfl 16 Tryz.underlying41 einfo_str rfl (by exact own6) a w5.heap.size rfl (by exact blk6) (fun j hj => sEnc_one _ j hj) (by omega) (by omega) HZ.out ?_
            intro g9 cap9 w9 own9 hm9 hat9 hlt9
            have hng : ¬ blkOf x.ha = some g := fun e => (HX6.out.last.hosts.blk_tb e).2.ne HX6.out.tb.2 (by decide) rfl
            have hnp : ¬ blkOf x.ha = some pb := fun e => HAP.out pb (by unfold HasB; simp [e]) rfl
            have hnb : ¬ blkOf x.ha = some rb := fun e => (HX6.out.last.hosts.blk_tb e).2.ne HB6.out.tb (by decide) rfl
            have hb9 := HB6.out.mod hm9 hnb
            have hp9 := HP6.out.mod hm9 hnp
            have q9 := (hm9.cell (p := ⟨g, pre.length * 6 + 1, none⟩) HX6.out.tb.2.lt hng).trans (HX6.out.cell (j := 1) (by decide))
            have f9 := (hm9.frozen (p := ⟨g, pre.length * 6 + 1, none⟩) HX6.out.tb.2.lt hng).trans (HX6.out.row.frozen _)
            have l9 : g < w9.heap.size := Nat.lt_of_lt_of_le HX6.out.tb.2.lt hm9.size
            have hXf := HX6.out.host (a := a) own9 hm9 hat9
            have HM9 : Hid (Mod (fun k => B ≤ k) w w9) := Lib.hid (HM6.out.step hm9 (fun i hi e => (HX6.out.last.hosts.blk_tb e).1))
            have HFIN : Hid (RRdLine line B rb s w (.returned (.bool ((N : Int) == 1))) (w9.setCell ⟨g, pre.length * 6 + 1, none⟩ (.slice (some ⟨g9, 0, none⟩) (x.hn + 1) cap9))) := Lib.hid (HEND.out _ (Mod.setCell (p := ⟨g, pre.length * 6 + 1, none⟩) HM9.out (.inl HX6.out.tb.1) _) ⟨HBR.out, some ⟨g, 0, none⟩, n, c, hb9.mod (Mod.setCell (S := fun k => k = g) (p := ⟨g, pre.length * 6 + 1, none⟩) (Mod.refl _ w9) (.inl rfl) _) (HB6.out.tb.ne HX6.out.tb.2 (by decide)), .inr ⟨g, pre, _, pout, _, rfl, rfl, hXf⟩⟩)
            refine hK.out _ _ ⟨q9, (hp9.cell 0).trans (by unfold strCs; rfl), l9, hp9.lt⟩ (fun hHeld => ?_)
            clear hK K hHeld
            try simp only [Act.put, List.setIfInBounds_toArray, List.set_cons_zero, List.set_cons_succ]
            refine heldO_nil ?_
            clear own6 blk6 hb9 hp9 hm9 hat9 own9 m6 HZ hXf hng hnp hnb HAP
            go_wp2_with fail
            go_ret
            exact HFIN.out
          · obtain rfl : kd = 3 := by omega
            have HEND : Hid (∀ w', Mod (fun k => B ≤ k) w w' → RdAt w' B rb ⟨pout ++ [{ r with methods := r.methods ++ [a] }], 3⟩ → RRdLine line B rb s w (.returned (.bool ((N : Int) == 1))) w') := Lib.hid (fun w' h1 h2 => by
              obtain _ | ⟨b2, P⟩ := P
              · obtain rfl : 1 = N := HN.out
                exact .yes (s1 := ⟨pout ++ [{ r with methods := r.methods ++ [a] }], 3⟩) (by
                  rw [HW.out]
                  show some (⟨onLast (fun r => { r with methods := r.methods ++ [a] }) s.out, 3⟩ : RdS) = _
                  rw [HOUT.out, onLast_snoc]) h1 h2
              · have e1 : ((N : Int) == 1) = false := by have := HN.out; simp at this ⊢; omega
                rw [e1]
                refine .no ?_ h1
                rw [HW.out]
                cases P with
                | nil => rfl
                | cons c P => cases P <;> rfl)
            have hfn : x.mn ≤ 9001 := by have h1 := HX5.out.last.methods.1; have h2 := (HSM.out.each r (by rw [HOUT.out]; simp)).methods.1; omega
            have HSC : Hid (∀ W, New w5 W → W.cell? ⟨g, pre.length * 6 + 3, none⟩ = some (.slice x.ma x.mn x.mc) ∧ W.cell? ⟨pb, 0, none⟩ = some (.string a) ∧ g < W.heap.size ∧ pb < W.heap.size) := Lib.hid (fun W h => by
              have h1 := HX5.out.mod h (fun _ _ _ e => e)
              have h2 := HP5.out.mod h (fun e => e)
              exact ⟨h1.cell (j := 3) (by decide), (h2.cell 0).trans (by unfold strCs; rfl), h1.tb.2.lt, h2.lt⟩)
            go_upto_region 22 with (fail)
            refine wp_region_held_ord (fun W => W.cell? ⟨g, pre.length * 6 + 3, none⟩ = some (.slice x.ma x.mn x.mc) ∧ W.cell? ⟨pb, 0, none⟩ = some (.string a) ∧ g < W.heap.size ∧ pb < W.heap.size) [8, 9] [0, 1, 2, 3, 4, 5, 6, 7, 8, 9] (by kernel_rfl) (by kernel_rfl) (fun _ _ d _ _ h => by cases d <;> exact h) ?_ (fun hHeld => ?_)
            · exact HSC.out _ (Mod.refl _ _).drew
            simp only [List.length_cons, List.length_nil, List.drop_succ_cons, List.drop_zero]
            refine heldO_take ?_ (by rfl) (by rfl) (by rfl) (fun w hSw => ?_) ?_
            rotate_left
            · (try dsimp only at hSw); go_simp; any_goals (with_reducible rfl)
            simp only [Act.put, List.setIfInBounds_toArray, List.set_cons_zero, List.set_cons_succ]
            refine heldO_take ?_ (by rfl) (by rfl) (by rfl) (fun w hSw => ?_) ?_
            rotate_left
            · (try dsimp only at hSw); go_simp; any_goals (with_reducible rfl)
            simp only [Act.put, List.setIfInBounds_toArray, List.set_cons_zero, List.set_cons_succ]
            refine heldO_take ?_ (by rfl) (by rfl) (by rfl) (fun w hSw => ?_) ?_
            rotate_left
            · (try dsimp only at hSw); go_simp; any_goals (with_reducible rfl)
            simp only [Act.put, List.setIfInBounds_toArray, List.set_cons_zero, List.set_cons_succ]
            refine heldO_take ?_ (by rfl) (by rfl) (by rfl) (fun w hSw => ?_) ?_
            rotate_left
            · (try dsimp only at hSw); go_simp; any_goals (with_reducible rfl)
            simp only [Act.put, List.setIfInBounds_toArray, List.set_cons_zero, List.set_cons_succ]
            refine heldO_take ?_ (by rfl) (by rfl) (by rfl) (fun w hSw => ?_) ?_
            rotate_left
            · (try dsimp only at hSw); go_simp; any_goals (with_reducible rfl)
            simp only [Act.put, List.setIfInBounds_toArray, List.set_cons_zero, List.set_cons_succ]
            refine heldO_take ?_ (by rfl) (by rfl) (by rfl) (fun w hSw => ?_) ?_
            rotate_left
            · (try dsimp only at hSw); go_simp; any_goals (with_reducible rfl)
            simp only [Act.put, List.setIfInBounds_toArray, List.set_cons_zero, List.set_cons_succ]
            refine heldO_take ?_ (by rfl) (by rfl) (by rfl) (fun w hSw => ?_) ?_
            rotate_left
            · (try dsimp only at hSw); go_simp; any_goals (with_reducible rfl)
            simp only [Act.put, List.setIfInBounds_toArray, List.set_cons_zero, List.set_cons_succ]
            refine heldO_take ?_ (by rfl) (by rfl) (by rfl) (fun w hSw => ?_) ?_
            rotate_left
            · (try dsimp only at hSw); go_simp; any_goals (with_reducible rfl)
            simp only [Act.put, List.setIfInBounds_toArray, List.set_cons_zero, List.set_cons_succ]
            refine heldO_step (by rfl) (by rfl) (by rfl) (fun K hK => ?_)
            go_simp
            have m6 : New w5 (w5.alloc (.cells #[.string a] 9)).drew := ((Mod.refl _ w5).alloc _).drew
            refine hK.out _ _ (HSC.out _ m6) (fun hHeld => ?_)
            clear hK K hHeld
            try simp only [Act.put, List.setIfInBounds_toArray, List.set_cons_zero, List.set_cons_succ]
            have HX6 := Lib.hid (HX5.out.mod m6 (fun _ _ _ e => e))
            have HB6 := Lib.hid (HB5.out.mod m6 (fun e => e))
            have HP6 := Lib.hid (HP5.out.mod m6 (fun e => e))
            have own6 := HX6.out.last.methods
            have blk6 : Blk (w5.alloc (.cells #[.string a] 9)).drew w5.heap.size 9 (encL 1 sEnc a).toArray := (Blk.new w5 _ _).mod ((Mod.refl (fun _ => False) _).drew) (fun e => e)
            have HZ : Hid (B ≤ (w5.alloc (.cells #[.string a] 9)).drew.heap.size) := Lib.hid (by have := m6.size; omega)
            have HM6 := Lib.hid (HM5.out.trans (Mod.old B m6))
            refine heldO_step (by rfl) (by rfl) (by rfl) (fun K hK => ?_)
            refine wp_push (.tmp 126) (.tmp 130) _ rfl 16 Tryz.underlying41 einfo_str rfl (by exact own6) a w5.heap.size rfl (by exact blk6) (fun j hj => sEnc_one _ j hj) (by omega) (by omega) HZ.out ?_
            intro g9 cap9 w9 own9 hm9 hat9 hlt9
            have hng : ¬ blkOf x.ma = some g := fun e => (HX6.out.last.methods.blk_tb e).2.ne HX6.out.tb.2 (by decide) rfl
            have hnp : ¬ blkOf x.ma = some pb := fun e => HAP.out pb (by unfold HasB; simp [e]) rfl
            have hnb : ¬ blkOf x.ma = some rb := fun e => (HX6.out.last.methods.blk_tb e).2.ne HB6.out.tb (by decide) rfl
            have hb9 := HB6.out.mod hm9 hnb
            have hp9 := HP6.out.mod hm9 hnp
            have q9 := (hm9.cell (p := ⟨g, pre.length * 6 + 3, none⟩) HX6.out.tb.2.lt hng).trans (HX6.out.cell (j := 3) (by decide))
            have f9 := (hm9.frozen (p := ⟨g, pre.length * 6 + 3, none⟩) HX6.out.tb.2.lt hng).trans (HX6.out.row.frozen _)
            have l9 : g < w9.heap.size := Nat.lt_of_lt_of_le HX6.out.tb.2.lt hm9.size
            have hXf := HX6.out.method (a := a) own9 hm9 hat9
            have HM9 : Hid (Mod (fun k => B ≤ k) w w9) := Lib.hid (HM6.out.step hm9 (fun i hi e => (HX6.out.last.methods.blk_tb e).1))
            have HFIN : Hid (RRdLine line B rb s w (.returned (.bool ((N : Int) == 1))) (w9.setCell ⟨g, pre.length * 6 + 3, none⟩ (.slice (some ⟨g9, 0, none⟩) (x.mn + 1) cap9))) := Lib.hid (HEND.out _ (Mod.setCell (p := ⟨g, pre.length * 6 + 3, none⟩) HM9.out (.inl HX6.out.tb.1) _) ⟨HBR.out, some ⟨g, 0, none⟩, n, c, hb9.mod (Mod.setCell (S := fun k => k = g) (p := ⟨g, pre.length * 6 + 3, none⟩) (Mod.refl _ w9) (.inl rfl) _) (HB6.out.tb.ne HX6.out.tb.2 (by decide)), .inr ⟨g, pre, _, pout, _, rfl, rfl, hXf⟩⟩)
            refine hK.out _ _ ⟨q9, (hp9.cell 0).trans (by unfold strCs; rfl), l9, hp9.lt⟩ (fun hHeld => ?_)
            clear hK K hHeld
            try simp only [Act.put, List.setIfInBounds_toArray, List.set_cons_zero, List.set_cons_succ]
            refine heldO_nil ?_
            clear own6 blk6 hb9 hp9 hm9 hat9 own9 m6 HZ hXf hng hnp hnb HAP
            go_wp2_with fail
            go_ret
            exact HFIN.out
end Go.Proofs.YtnbcfpjalgfikaaGreatDoor
