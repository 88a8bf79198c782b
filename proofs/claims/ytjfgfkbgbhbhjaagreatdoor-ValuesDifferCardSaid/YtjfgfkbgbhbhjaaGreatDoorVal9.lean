/- value.Compare and value.checks. Conditions: the values stand in memory as trees; the library's tables lie as they should. -/
import Derived.Test.YtjfgfkbgbhbhjaaGreatDoorVal7Grp
import Derived.Test.YtjfgfkbgbhbhjaaGreatDoorValCGrp
namespace Go.Proofs.YtjfgfkbgbhbhjaaGreatDoor
open Go.RowKit
set_option linter.unusedVariables false
set_option linter.unusedSimpArgs false

set_option maxRecDepth 100000 in
set_option maxHeartbeats 1500000 in
theorem checks_v (d : Nat) (x y : VA) (v u : VT) (G : Nat → Prop) (w : World) (g : Nat) (hb : Blk w g 29 #[.int .i64 x.kind, .bool x.flag, .int .i64 x.num, .string x.words, .slice x.la x.ln x.lc, .slice x.ma x.mn x.mc, .int .i64 y.kind, .bool y.flag, .int .i64 y.num, .string y.words, .slice y.la y.ln y.lc, .slice y.ma y.mn y.mc])
    (ht1 : Tree w G d x v) (ht2 : Tree w G d y u) (hf1 : Fit d v) (hf2 : Fit d u) (hU : Utf8T w) :
    Calls Tryz.prog 25 #[.slice (some ⟨g, 0, none⟩) 2 2] w fun e w' => e = .returned (.int .i64 (orF (vCheck d v) (vCheck d u))) ∧ New w w' := by
  have HC1 := Lib.hid (fun W (h : New w W) => check_v d x v G W (ht1.new h) hf1 (hU.new h))
  have HC2 := Lib.hid (fun W (h : New w W) => check_v d y u G W (ht2.new h) hf2 (hU.new h))
  clear ht1 ht2 hf1 hf2 hU
  generalize vCheck d v = c1 at *
  generalize vCheck d u = c2 at *
  obtain ⟨xk, xf, xn, xw, xla, xln, xlc, xma, xmn, xmc⟩ := x
  obtain ⟨yk, yf, yn, yw, yla, yln, ylc, yma, ymn, ymc⟩ := y
  simp only at hb
  obtain ⟨F, hF⟩ : ∃ F, F = orF c1 c2 := ⟨_, rfl⟩
  rw [← hF]
  have HF := Lib.hid hF
  have HB := Lib.hid hb
  clear hF hb
  go_enter Tryz.func25, Tryz.ntmps25
  go_wp2_with fail
  go_loopw [8] (fun i wr => ∃ k : Nat, k ≤ 2 ∧ i = .int .i64 k ∧ Hid (1 ≤ k → c1 = 0) ∧ Hid (2 ≤ k → c2 = 0) ∧ Hid (New w wr)) (fun i _ => 2 - (intOf i).toNat)
  case atStart => exact ⟨0, Nat.zero_le _, rfl, Lib.hid (fun h => by omega), Lib.hid (fun h => by omega), Lib.hid (Mod.refl _ _)⟩
  case round =>
    rename World => wr
    obtain ⟨k, hk, rfl, H1, H2, HM⟩ := hrel
    have hb := HB.out.mod HM.out (fun e => e)
    have hbl := hb.lt
    obtain rfl | rfl | rfl : k = 0 ∨ k = 1 ∨ k = 2 := by omega
    · have e0 := hb.cell 0
      have e1 := hb.cell 1
      have e2 := hb.cell 2
      have e3 := hb.cell 3
      have e4 := hb.cell 4
      have e5 := hb.cell 5
      simp only [List.getElem?_toArray, List.getElem?_cons_zero, List.getElem?_cons_succ] at e0 e1 e2 e3 e4 e5
      have hma : New wr (wr.alloc (.cells #[.int .i64 xk, .bool xf, .int .i64 xn, .string xw, .slice xla xln xlc, .slice xma xmn xmc] 29)) := (Mod.refl _ _).alloc _
      have hc := HC1.out _ (HM.out.trans hma)
      have HMA := Lib.hid (HM.out.trans hma)
      clear hb hma
      go_wp2_with fail
      refine hc.mono ?_
      clear hc
      rintro e w5 ⟨rfl, m5⟩
      have HM5 := Lib.hid (HMA.out.trans m5)
      by_cases hz : c1 = 0
      · have hz1 : (c1 != 0) = false := by simpa using hz
        have HZ := Lib.hid hz
        clear hz
        go_wp2_with fail
        go_roundw
        case rel => exact ⟨1, by omega, rfl, Lib.hid (fun _ => HZ.out), Lib.hid (fun h => by omega), HM5⟩
        case measure => simp [intOf]
      · have hz1 : (c1 != 0) = true := by simpa using hz
        have HFF : Hid (F = c1) := Lib.hid (by rw [HF.out, orF, if_pos hz])
        clear hz
        go_wp2_with fail
        go_ret
        exact ⟨ret_int HFF.out.symm, HM5.out⟩
    · have e0 := hb.cell 6
      have e1 := hb.cell 7
      have e2 := hb.cell 8
      have e3 := hb.cell 9
      have e4 := hb.cell 10
      have e5 := hb.cell 11
      simp only [List.getElem?_toArray, List.getElem?_cons_zero, List.getElem?_cons_succ] at e0 e1 e2 e3 e4 e5
      have hma : New wr (wr.alloc (.cells #[.int .i64 yk, .bool yf, .int .i64 yn, .string yw, .slice yla yln ylc, .slice yma ymn ymc] 29)) := (Mod.refl _ _).alloc _
      have hc := HC2.out _ (HM.out.trans hma)
      have HMA := Lib.hid (HM.out.trans hma)
      clear hb hma
      go_wp2_with fail
      refine hc.mono ?_
      clear hc
      rintro e w5 ⟨rfl, m5⟩
      have HM5 := Lib.hid (HMA.out.trans m5)
      by_cases hz : c2 = 0
      · have hz1 : (c2 != 0) = false := by simpa using hz
        have HZ := Lib.hid hz
        clear hz
        go_wp2_with fail
        go_roundw
        case rel => exact ⟨2, by omega, rfl, Lib.hid (fun _ => H1.out (by omega)), Lib.hid (fun h => HZ.out), HM5⟩
        case measure => simp [intOf]
      · have hz1 : (c2 != 0) = true := by simpa using hz
        have HFF : Hid (F = c2) := Lib.hid (by rw [HF.out, orF, if_neg (by simp [H1.out (by omega)])])
        clear hz
        go_wp2_with fail
        go_ret
        exact ⟨ret_int HFF.out.symm, HM5.out⟩
    · have HFF : Hid (F = 0) := Lib.hid (by rw [HF.out, H1.out (by omega), H2.out (by omega)]; rfl)
      clear hb
      go_wp2_with fail
      go_ret
      exact ⟨ret_int HFF.out.symm, HM.out⟩

end Go.Proofs.YtjfgfkbgbhbhjaaGreatDoor
