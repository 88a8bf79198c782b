/- The program: Get, what stands at a path. Conditions: a value that Fit; a path of at most 200000 steps. -/
import Derived.Test.YtpgcbehpknghdaaGreatDoorChgRunGrp
import Derived.Test.YtpgcbehpknghdaaGreatDoorChd
import Derived.Test.YtpgcbehpknghdaaGreatDoorBin
import Derived.Test.YtpgcbehpknghdaaGreatDoorClone
import Derived.Test.YtpgcbehpknghdaaGreatDoorStepC
import Derived.Test.YtpgcbehpknghdaaGreatDoorVal7Grp
import Derived.Test.YtpgcbehpknghdaaGreatDoorGet
namespace Go.Proofs.YtpgcbehpknghdaaGreatDoor
open Go.RowKit
set_option linter.unusedVariables false
set_option linter.unusedSimpArgs false

def RGets (w : World) (d n : Nat) (v : VT) (ps : List St) (f : Int) (e : Ending) (w' : World) : Prop := New w w' ∧
  ((f ≠ 0 ∧ e = .returned (.tuple #[nilVA.val, .bool false, .int .i64 f])) ∨ (f = 0 ∧ getP v ps = none ∧ e = .returned (.tuple #[nilVA.val, .bool false, .int .i64 0])) ∨
  (f = 0 ∧ ∃ u y, getP v ps = some u ∧ e = .returned (.tuple #[y.val, .bool true, .int .i64 0]) ∧ Tree w' (fun _ => True) (d - n) y u ∧ Fit (d - n) u))
def getsF (d : Nat) (v : VT) (ps : List St) : Int := if vCheck d v ≠ 0 then vCheck d v else pathF ps
set_option maxRecDepth 100000 in
set_option maxHeartbeats 1000000 in
theorem valGet_v (d : Nat) (x : VA) (v : VT) (A : Option Addr) (n c : Nat) (ps : List St) (w : World) (ht : Tree w (fun _ => True) d x v) (hf : Fit d v) (hs : Sl w 46 3 St.enc A n ps) (hn : n ≤ 200000) (hok : StOk ps) (hU : Utf8T w) :
    Calls Tryz.prog 17 #[x.val, .slice A n c] w (RGets w d n v ps (getsF d v ps)) := by
  have HCK := Lib.hid (fun W (h : New w W) => check_v d x v _ W (ht.new h) hf (hU.new h))
  have HCP := Lib.hid (fun W (h : New w W) => checkPath_v A n c ps W (hs.new h) hn hok (hU.new h))
  have hgd : vCheck d v = 0 → Good d v := fun h => Good.of d v (Tree.deep d x v ht) (by
    unfold vCheck at h
    split at h
    · cases h
    · exact h)
  have hpo : pathF ps = 0 → ∀ s ∈ ps, 0 ≤ s.at_ ∧ s.at_ ≤ 5000 := fun h s hs => ((pathF_ok h).2 s hs).2
  have HT0 : Hid (Tree w (fun g => g < w.heap.size) d x v) := Lib.hid (Tree.imp (fun g _ h => h) _ _ _ ht)
  have HS := Lib.hid hs
  have hpl := hs.1
  have HF := Lib.hid hf
  have hgf : getsF d v ps = if vCheck d v ≠ 0 then vCheck d v else pathF ps := rfl
  generalize getsF d v ps = F at *
  generalize vCheck d v = F1 at *
  generalize pathF ps = F2 at *
  have HGF := Lib.hid hgf
  have HGD := Lib.hid hgd
  have HPO := Lib.hid hpo
  clear ht hf hs hok hU hgf hgd hpo
  obtain ⟨y, hy⟩ : ∃ y, y = x := ⟨_, rfl⟩
  rw [← hy] at HT0
  have HY := Lib.hid hy
  clear hy
  obtain ⟨xk, xf, xn, xw, xla, xln, xlc, xma, xmn, xmc⟩ := x
  have hx := Blk.new w 29 #[.int .i64 xk, .bool xf, .int .i64 xn, .string xw, .slice xla xln xlc, .slice xma xmn xmc]
  have m1 : New w (w.alloc (.cells #[.int .i64 xk, .bool xf, .int .i64 xn, .string xw, .slice xla xln xlc, .slice xma xmn xmc] 29)) := (Mod.refl _ _).alloc _
  have z1 : (w.alloc (.cells #[.int .i64 xk, .bool xf, .int .i64 xn, .string xw, .slice xla xln xlc, .slice xma xmn xmc] 29)).heap.size = w.heap.size + 1 := by simp
  go_enter Tryz.func17, Tryz.ntmps17
  go_upto_region 1 with (fail)
  generalize w.alloc (.cells #[.int .i64 xk, .bool xf, .int .i64 xn, .string xw, .slice xla xln xlc, .slice xma xmn xmc] 29) = w1 at *
  have hz := Blk.new w1 29 #[.int .i64 0, .bool false, .int .i64 0, .string ⟨#[]⟩, .slice none 0 0, .slice none 0 0]
  have m2 : New w1 (w1.alloc (.cells #[.int .i64 0, .bool false, .int .i64 0, .string ⟨#[]⟩, .slice none 0 0, .slice none 0 0] 29)) := (Mod.refl _ _).alloc _
  generalize w1.alloc (.cells #[.int .i64 0, .bool false, .int .i64 0, .string ⟨#[]⟩, .slice none 0 0, .slice none 0 0] 29) = w2 at *
  rw [z1] at hz
  have hxx := hx.mod m2 (fun e => e)
  have HX := Lib.hid hxx
  have HR2 := Lib.hid hz
  have HM := Lib.hid (m1.trans m2)
  clear hxx hx hz m1 m2 z1
  generalize hxb : w.heap.size = xb at *
  have hwb : w.heap.size ≤ xb := by omega
  have hcall := HCK.out w2 HM.out
  have e0 := HX.out.cell 0
  have e1 := HX.out.cell 1
  have e2 := HX.out.cell 2
  have e3 := HX.out.cell 3
  have e4 := HX.out.cell 4
  have e5 := HX.out.cell 5
  have el := HX.out.lt
  have ef := HX.out.frozen
  simp only [List.getElem?_toArray, List.getElem?_cons_zero, List.getElem?_cons_succ] at e0 e1 e2 e3 e4 e5
  go_wp2_with fail
  refine hcall.mono ?_
  clear hcall
  rintro e w3 ⟨rfl, m3⟩
  clear e0 e1 e2 e3 e4 e5 el ef
  have HX3 := Lib.hid (HX.out.mod m3 (fun e => e))
  have HR := Lib.hid (HR2.out.mod m3 (fun e => e))
  have HM3 := Lib.hid (HM.out.trans m3)
  clear m3 HX HR2 HM
  by_cases hF1 : F1 = 0
  rotate_left
  · have hFb : (F1 != 0) = true := by simpa using hF1
    have HFF : Hid (F = F1 ∧ F1 ≠ 0) := Lib.hid ⟨by rw [HGF.out, if_pos hF1], hF1⟩
    clear hF1
    have r0 := HR.out.cell 0
    have r1 := HR.out.cell 1
    have r2 := HR.out.cell 2
    have r3 := HR.out.cell 3
    have r4 := HR.out.cell 4
    have r5 := HR.out.cell 5
    have rl := HR.out.lt
    have rf := HR.out.frozen
    simp only [List.getElem?_toArray, List.getElem?_cons_zero, List.getElem?_cons_succ] at r0 r1 r2 r3 r4 r5
    go_wp2_with fail
    refine bodyPost_ret (v := .tuple #[nilVA.val, .bool false, .int .i64 F1]) (by simp [results, Tryz.results17, go_sem, r0, r1, r2, r3, r4, r5, rf]) rfl ⟨?_, .inl ⟨by rw [HFF.out.1]; exact HFF.out.2, by rw [HFF.out.1]⟩⟩
    repeat (with_reducible (first | exact HM3.out | (refine Mod.setCell ?_ (.inr (by first | omega | (dsimp only; omega) | skip)) _)))
  · subst hF1
    have HFF : Hid (F = F2) := Lib.hid (by rw [HGF.out, if_neg (by omega)])
    have hcall := HCP.out w3 HM3.out
    go_wp2_with fail
    refine hcall.mono ?_
    clear hcall
    rintro e w4 ⟨rfl, m4⟩
    have HX4 := Lib.hid (HX3.out.mod m4 (fun e => e))
    have HR4 := Lib.hid (HR.out.mod m4 (fun e => e))
    have HM4 := Lib.hid (HM3.out.trans m4)
    clear m4 HX3 HR HM3
    by_cases hF2 : F2 = 0
    rotate_left
    · have hFb : (F2 != 0) = true := by simpa using hF2
      have HFG : Hid (F2 ≠ 0) := Lib.hid hF2
      clear hF2
      have HR := HR4
      have r0 := HR.out.cell 0
      have r1 := HR.out.cell 1
      have r2 := HR.out.cell 2
      have r3 := HR.out.cell 3
      have r4 := HR.out.cell 4
      have r5 := HR.out.cell 5
      have rl := HR.out.lt
      have rf := HR.out.frozen
      simp only [List.getElem?_toArray, List.getElem?_cons_zero, List.getElem?_cons_succ] at r0 r1 r2 r3 r4 r5
      go_wp2_with fail
      refine bodyPost_ret (v := .tuple #[nilVA.val, .bool false, .int .i64 F2]) (by simp [results, Tryz.results17, go_sem, r0, r1, r2, r3, r4, r5, rf]) rfl ⟨?_, .inl ⟨by rw [HFF.out]; exact HFG.out, by rw [HFF.out]⟩⟩
      repeat (with_reducible (first | exact HM4.out | (refine Mod.setCell ?_ (.inr (by first | omega | (dsimp only; omega) | skip)) _)))
    · subst hF2
      have HIN : Hid (∃ (y : VA) (u : VT) (e' : Nat), e' + 0 = d ∧ Hid (getP v ps = getP u (ps.drop 0)) ∧ Hid (Tree w4 (fun g => g < xb) e' y u) ∧ Hid (Good e' u) ∧ Hid (Fit e' u) ∧ Hid (Blk w4 xb 29 y.cells)) := Lib.hid ⟨y, v, d, rfl, Lib.hid rfl, Lib.hid (HT0.out.new HM4.out), Lib.hid (HGD.out trivial), HF, Lib.hid (by rw [HY.out]; exact HX4.out)⟩
      clear HX4 HY HT0
      go_wp2_with fail
      go_loopw [27] (fun i wr => ∃ k : Nat, k ≤ n ∧ i = .int .i64 k ∧ Hid (∃ (y : VA) (u : VT) (e' : Nat), e' + k = d ∧ Hid (getP v ps = getP u (ps.drop k)) ∧ Hid (Tree wr (fun g => g < xb) e' y u) ∧ Hid (Good e' u) ∧ Hid (Fit e' u) ∧ Hid (Blk wr xb 29 y.cells)) ∧ Hid (Blk wr (xb + 1) 29 #[.int .i64 0, .bool false, .int .i64 0, .string ⟨#[]⟩, .slice none 0 0, .slice none 0 0]) ∧ Hid (New w wr)) (fun i _ => n - (intOf i).toNat)
      case atStart => exact ⟨0, Nat.zero_le _, rfl, HIN, HR4, HM4⟩
      clear HIN HR4 HM4
      case round =>
        rename World => wr
        obtain ⟨k, hk, rfl, HIN, HR, HM⟩ := hrel
        obtain ⟨y, u, e', hed, HGP, HTY, HGY, HFY, HXY⟩ := HIN.out
        clear HIN
        by_cases hlt : k < n
        · have hkl : k < ps.length := by omega
          obtain ⟨g, o, hA, htb, hc0⟩ := (HS.out.new HM.out).2 (by omega)
          subst hA
          have hc := fun j (hj : j < 3) => hc0 k hkl j hj
          have hgl := htb.lt
          have HSA := Lib.hid (HPO.out trivial ps[k] (List.getElem_mem hkl))
          have HGN := Lib.hid (fun h => getP_none (v := u) hkl h)
          have HGS := Lib.hid (fun z h => getP_some (v := u) (u := z) hkl h)
          clear hc0 htb
          generalize ps[k] = s at *
          obtain ⟨nm, sn, sa⟩ := s
          have s0 := hc 0 (by omega)
          have s1 := hc 1 (by omega)
          have s2 := hc 2 (by omega)
          simp only [St.enc, Nat.add_zero] at s0 s1 s2
          have hb1 : (0 : Int) ≤ k := by omega
          have hb2 : (k : Int) < n := by omega
          have m5 : New wr (wr.alloc (.cells #[.bool nm, .string sn, .int .i64 sa] 46)) := (Mod.refl _ _).alloc _
          have hsb := Blk.new wr 46 #[.bool nm, .string sn, .int .i64 sa]
          clear hc
          go_upto_region 10 with (fail)
          generalize wr.alloc (.cells #[.bool nm, .string sn, .int .i64 sa] 46) = w5 at *
          have hsz : xb + 1 < wr.heap.size := HR.out.lt
          have HX5 := Lib.hid (HXY.out.mod m5 (fun e => e))
          have HR5 := Lib.hid (HR.out.mod m5 (fun e => e))
          have HM5 := Lib.hid (HM.out.trans m5)
          have HT5 := Lib.hid (HTY.out.new m5)
          have HSB := Lib.hid hsb
          generalize wr.heap.size = sb at *
          clear s0 s1 s2 hgl m5 hsb HXY HR HM HTY
          cases e' with
          | zero => exact HT5.out.elim
          | succ e' =>
            have hcall := at_v (fun g => g < xb) e' y u ⟨nm, sn, sa⟩ w5 HT5.out (own_idle HGY.out.1).2.2 (by have := HFY.out.parts.1; omega) (by have := HFY.out.parts.2.1; omega) HSA.out
            obtain ⟨yk, yf, yn, yw, yla, yln, ylc, yma, ymn, ymc⟩ := y
            have hxy := HX5.out
            simp only [VA.cells] at hxy
            have e0 := hxy.cell 0
            have e1 := hxy.cell 1
            have e2 := hxy.cell 2
            have e3 := hxy.cell 3
            have e4 := hxy.cell 4
            have e5 := hxy.cell 5
            have el := hxy.lt
            have ef := hxy.frozen
            simp only [List.getElem?_toArray, List.getElem?_cons_zero, List.getElem?_cons_succ] at e0 e1 e2 e3 e4 e5
            have t0 := HSB.out.cell 0
            have t1 := HSB.out.cell 1
            have t2 := HSB.out.cell 2
            have tl := HSB.out.lt
            simp only [List.getElem?_toArray, List.getElem?_cons_zero, List.getElem?_cons_succ] at t0 t1 t2
            unfold St.val at hcall
            simp only at hcall
            go_wp2_with fail
            refine hcall.mono ?_
            clear hcall
            clear e0 e1 e2 e3 e4 e5 el ef
            clear hxy t0 t1 t2 tl
            rintro e w6 (⟨hno, rfl, m6⟩ | ⟨z, y, hyes, rfl, hty, m6⟩)
            · have HNO : Hid (getP v ps = none) := Lib.hid (by rw [HGP.out]; exact HGN.out (by rw [← at_eq HGY.out.1]; exact hno))
              have HR6 := Lib.hid (HR5.out.mod m6 (fun e => e))
              have HM6 := Lib.hid (HM5.out.trans m6)
              have m7 : New w6 (w6.alloc (.cells #[.int .i64 0, .bool false, .int .i64 0, .string ⟨#[]⟩, .slice none 0 0, .slice none 0 0] 29)) := (Mod.refl _ _).alloc _
              go_upto_region 11 with (fail)
              generalize w6.alloc (.cells #[.int .i64 0, .bool false, .int .i64 0, .string ⟨#[]⟩, .slice none 0 0, .slice none 0 0] 29) = w7 at *
              have HR := Lib.hid (HR6.out.mod m7 (fun e => e))
              have HM7 := Lib.hid (HM6.out.trans m7)
              clear m6 m7 hno HR5 HR6 HX5
              have r0 := HR.out.cell 0
              have r1 := HR.out.cell 1
              have r2 := HR.out.cell 2
              have r3 := HR.out.cell 3
              have r4 := HR.out.cell 4
              have r5 := HR.out.cell 5
              have rl := HR.out.lt
              have rf := HR.out.frozen
              simp only [List.getElem?_toArray, List.getElem?_cons_zero, List.getElem?_cons_succ] at r0 r1 r2 r3 r4 r5
              go_wp2_with fail
              refine bodyPost_ret (v := .tuple #[nilVA.val, .bool false, .int .i64 0]) (by simp [results, Tryz.results17, go_sem, r0, r1, r2, r3, r4, r5, rf]) rfl ⟨?_, .inr (.inl ⟨HFF.out, HNO.out, rfl⟩)⟩
              repeat (with_reducible (first | exact HM7.out | (refine Mod.setCell ?_ (.inr (by first | omega | (dsimp only; omega) | skip)) _)))
            · have HAT : Hid (getR u ⟨nm, sn, sa⟩ = some z) := Lib.hid (by rw [← at_eq HGY.out.1]; exact hyes)
              have HFZ : Hid (Fit e' z) := Lib.hid (Fit.deep (Tree.deep _ _ _ HT5.out) HFY.out HAT.out)
              have HGZ : Hid (Good e' z) := Lib.hid (Good.get HGY.out HAT.out)
              have HGT : Hid (getP v ps = getP z (ps.drop (k + 1))) := Lib.hid (by rw [HGP.out]; exact HGS.out _ HAT.out)
              have HX6 := Lib.hid (HX5.out.mod m6 (fun e => e))
              have HR6 := Lib.hid (HR5.out.mod m6 (fun e => e))
              have HM6 := Lib.hid (HM5.out.trans m6)
              obtain ⟨zk, zf, zn, zw, zla, zln, zlc, zma, zmn, zmc⟩ := y
              have m7 : New w6 (w6.alloc (.cells #[.int .i64 zk, .bool zf, .int .i64 zn, .string zw, .slice zla zln zlc, .slice zma zmn zmc] 29)) := (Mod.refl _ _).alloc _
              have hmb := Blk.new w6 29 #[.int .i64 zk, .bool zf, .int .i64 zn, .string zw, .slice zla zln zlc, .slice zma zmn zmc]
              have hszp : xb + 1 < w6.heap.size := HR6.out.lt
              go_upto_region 11 with (fail)
              generalize w6.alloc (.cells #[.int .i64 zk, .bool zf, .int .i64 zn, .string zw, .slice zla zln zlc, .slice zma zmn zmc] 29) = wa at *
              generalize w6.heap.size = mb at *
              have HXA := Lib.hid (HX6.out.mod m7 (fun e => e))
              have HRA := Lib.hid (HR6.out.mod m7 (fun e => e))
              have HMA := Lib.hid (HM6.out.trans m7)
              have HTZ := Lib.hid (hty.new m7)
              have HMB := Lib.hid hmb
              clear m6 m7 hyes hty hmb HR5 HR6 HX5 HX6
              have d0 := HMB.out.cell 0
              have d1 := HMB.out.cell 1
              have d2 := HMB.out.cell 2
              have d3 := HMB.out.cell 3
              have d4 := HMB.out.cell 4
              have d5 := HMB.out.cell 5
              have dl := HMB.out.lt
              simp only [List.getElem?_toArray, List.getElem?_cons_zero, List.getElem?_cons_succ] at d0 d1 d2 d3 d4 d5
              have hxy := HXA.out
              simp only [VA.cells] at hxy
              have e0 := hxy.cell 0
              have e1 := hxy.cell 1
              have e2 := hxy.cell 2
              have e3 := hxy.cell 3
              have e4 := hxy.cell 4
              have e5 := hxy.cell 5
              have el := hxy.lt
              have ef := hxy.frozen
              simp only [List.getElem?_toArray, List.getElem?_cons_zero, List.getElem?_cons_succ] at e0 e1 e2 e3 e4 e5
              clear hxy
              go_wp2_with fail
              go_roundw
              case rel =>
                have HO := Only.cell6 wa xb (.int .i64 zk) (.bool zf) (.int .i64 zn) (.string zw) (.slice zla zln zlc) (.slice zma zmn zmc)
                exact ⟨k + 1, by omega, by go_num, Lib.hid ⟨⟨zk, zf, zn, zw, zla, zln, zlc, zma, zmn, zmc⟩, z, e', by omega, HGT, Lib.hid (Tree.mod HO (fun g hg _ e => by omega) _ _ _ HTZ.out), HGZ, HFZ, Lib.hid (Blk.copy6 (by have h := HXA.out; simp only [VA.cells] at h; exact h) _ _ _ _ _ _)⟩, Lib.hid (HRA.out.mod HO (by omega)), Lib.hid (HMA.out.step HO (fun i hi e => by omega))⟩
              case measure => simp [intOf]; omega
        · obtain rfl : k = n := by omega
          have HGE : Hid (getP v ps = some u) := Lib.hid (by rw [HGP.out]; exact getP_end (by omega))
          have hcall := clone_v e' y u wr (Tree.imp (fun _ _ _ => trivial) _ _ _ HTY.out) HFY.out.2
          have hee : e' = d - k := by omega
          obtain ⟨yk, yf, yn, yw, yla, yln, ylc, yma, ymn, ymc⟩ := y
          have hxy := HXY.out
          simp only [VA.cells] at hxy
          have hsz : xb + 1 < wr.heap.size := HR.out.lt
          have e0 := hxy.cell 0
          have e1 := hxy.cell 1
          have e2 := hxy.cell 2
          have e3 := hxy.cell 3
          have e4 := hxy.cell 4
          have e5 := hxy.cell 5
          have el := hxy.lt
          have ef := hxy.frozen
          simp only [List.getElem?_toArray, List.getElem?_cons_zero, List.getElem?_cons_succ] at e0 e1 e2 e3 e4 e5
          go_wp2_with fail
          refine hcall.mono ?_
          clear hcall
          clear e0 e1 e2 e3 e4 e5 el ef
          clear hxy
          rintro e w6 ⟨y, rfl, hty, m6⟩
          have HR6 := Lib.hid (HR.out.mod m6 (fun e => e))
          have HM6 := Lib.hid (HM.out.trans m6)
          have HTZ := Lib.hid hty
          clear hty m6
          obtain ⟨zk, zf, zn, zw, zla, zln, zlc, zma, zmn, zmc⟩ := y
          have r0 := HR6.out.cell 0
          have r1 := HR6.out.cell 1
          have r2 := HR6.out.cell 2
          have r3 := HR6.out.cell 3
          have r4 := HR6.out.cell 4
          have r5 := HR6.out.cell 5
          have rl := HR6.out.lt
          have rf := HR6.out.frozen
          simp only [List.getElem?_toArray, List.getElem?_cons_zero, List.getElem?_cons_succ] at r0 r1 r2 r3 r4 r5
          go_wp2_with fail
          refine bodyPost_ret (v := .tuple #[VA.val ⟨zk, zf, zn, zw, zla, zln, zlc, zma, zmn, zmc⟩, .bool true, .int .i64 0]) (by simp [results, Tryz.results17, go_sem, r0, r1, r2, r3, r4, r5, rf, rl, VA.val]) rfl ⟨?_, .inr (.inr ⟨HFF.out, u, ⟨zk, zf, zn, zw, zla, zln, zlc, zma, zmn, zmc⟩, HGE.out, rfl, ?_, by rw [← hee]; exact HFY.out⟩)⟩
          · repeat (with_reducible (first | exact HM6.out | (refine Mod.setCell ?_ (.inr (by first | omega | (dsimp only; omega) | skip)) _)))
          · rw [← hee]
            exact Tree.imp (fun _ _ _ => trivial) _ _ _ (Tree.mod (S := fun k => k = xb + 1) (Only.cell6 w6 (xb + 1) _ _ _ _ _ _) (fun g hg _ e => by have : wr.heap.size ≤ g := hg; omega) _ _ _ HTZ.out)

end Go.Proofs.YtpgcbehpknghdaaGreatDoor
