/- Several texts in one. (1) What is wrong with a value and with all in it: the reference's partsFault, ValueFault; the program's Check, checks. Conditions: the value stands in memory as a tree; the library's tables lie as they should. (2) value.textOf, value.Text. Conditions: the value stands in memory as a tree of modest size; the library's tables. (3) Comparing: the first that is not nought, two rows over a function. Conditions: rows of modest size. (4) Comparing two values: the program's. (XValE, the reference's member comparison, is printed out of this by mkvale.py.) Conditions: the values stand in memory as trees. (5) Changes of values, the plain law: steps, paths, changes, what a change makes of a value, in the program's words and in the reference's. No program in sight. No conditions. -/
import Derived.Test.YtjmnkdkdjnmejaaGreatDoorValCloneGrp
import Derived.Test.YtjmnkdkdjnmejaaGreatDoorValU
import Derived.Test.YtjmnkdkdjnmejaaGreatDoorVal1Grp
import Derived.Test.YtjmnkdkdjnmejaaGreatDoorVal2Grp
import Derived.Test.YtjmnkdkdjnmejaaGreatDoorHeldGrp
import Derived.Test.YtjmnkdkdjnmejaaGreatDoorBaseGrp

namespace Go.Proofs.YtjmnkdkdjnmejaaGreatDoor
open Go.RowKit
set_option linter.unusedVariables false
set_option linter.unusedSimpArgs false

theorem orF_assoc (a b c : Int) : orF (orF a b) c = orF a (orF b c) := by
  unfold orF
  by_cases h : a = 0 <;> simp [h]
theorem orL_two (a b : Int) : orL [a, b] = orF a b := by
  unfold orL orL orL orF
  by_cases h : a = 0 <;> by_cases h2 : b = 0 <;> simp [h, h2]
theorem orF_zero (a : Int) : orF a 0 = a := by
  unfold orF
  by_cases h : a = 0 <;> simp [h]
theorem or_two (a b : Int) (g : Nat) (w : World) (hb : Blk w g 31 #[.int .i64 a, .int .i64 b]) :
    Calls Tryz.prog 86 #[.slice (some ⟨g, 0, none⟩) 2 2] w fun e w' => e = .returned (.int .i64 (orF a b)) ∧ w = w' := by
  have := cmpOr_any [a, b] g 2 w hb rfl (by omega)
  rwa [orL_two] at this

set_option maxRecDepth 100000 in
set_option maxHeartbeats 1500000 in
theorem partsFault_v (d : Nat) : ∀ (x : VA) (v : VT) (G : Nat → Prop) (w : World), Tree w G d x v → Fit d v → Utf8T w →
    Calls Tryz.prog 52 #[x.val] w fun e w' => e = .returned (.int .i64 (vFault d v)) ∧ New w w' := by
  induction d with
  | zero => intro x v G w ht; exact ht.elim
  | succ d ih =>
    intro x v G w ht hW hU
    have hwp := hW.parts
    have HWI := hId (fun k (h : k < v.list.length) => hW.item h)
    have HWMB := hId (fun k (h : k < v.mem.length) => (hW.member h).1)
    have hfl := ht.fields
    have hof := fun W (h : New w W) => ownFault_v d x v G W (ht.new h) hW (hU.new h)
    have HT := hId ht
    have HU := hId hU
    have HIH := hId ih
    have HF : Hid (vFault (d + 1) v = orF (ownF v) (orF (fz (v.list.map (vFault d))) (fz (v.mem.map fun p => vFault d p.2)))) := hId rfl
    have hlb : v.list.length ≤ 200000 ∧ v.mem.length ≤ 200000 := by omega
    obtain ⟨hlb1, hlb2⟩ := hlb
    obtain ⟨kind, flag, num, words, la, ln, lc, ma, mn, mc⟩ := x
    obtain ⟨-, -, -, hwd, hln, hmn⟩ := hfl
    simp only at hln hmn hwd
    have HLN := hId hln
    have HMN := hId hmn
    rw [hln] at hlb1
    rw [hmn] at hlb2
    clear hwp hW ht hU ih hln hmn hwd
    generalize vFault (d + 1) v = F at *
    generalize ownF v = O at *
    have hx := Blk.new w 30 #[.int .i64 kind, .bool flag, .int .i64 num, .string words, .slice la ln lc, .slice ma mn mc]
    have hm1 : New w (w.alloc (.cells #[.int .i64 kind, .bool flag, .int .i64 num, .string words, .slice la ln lc, .slice ma mn mc] 30)) := (Mod.refl _ _).alloc _
    go_enter Tryz.func52, Tryz.ntmps52
    go_upto_region 1 with (fail)
    generalize w.alloc (.cells #[.int .i64 kind, .bool flag, .int .i64 num, .string words, .slice la ln lc, .slice ma mn mc] 30) = w1 at *
    generalize w.heap.size = xb at *
    have hof1 := hof _ hm1
    have HX := hId hx
    have HM1 := hId hm1
    have hxx := hx
    clear hx hm1 hof
    have e0 := hxx.cell 0
    have e1 := hxx.cell 1
    have e2 := hxx.cell 2
    have e3 := hxx.cell 3
    have e4 := hxx.cell 4
    have e5 := hxx.cell 5
    have el := hxx.lt
    simp only [lqt, lqz, lqs] at e0 e1 e2 e3 e4 e5
    go_wp2_with fail
    refine hof1.mono ?_
    clear hof1
    rintro e w2 ⟨rfl, m2⟩
    have HX2 := hId (HX.out.mod m2 (fun e => e))
    have HM2 := hId (HM1.out.trans m2)
    clear e0 e1 e2 e3 e4 e5 el hxx
    have hxx := HX2.out
    have e0 := hxx.cell 0
    have e1 := hxx.cell 1
    have e2 := hxx.cell 2
    have e3 := hxx.cell 3
    have e4 := hxx.cell 4
    have e5 := hxx.cell 5
    have el := hxx.lt
    simp only [lqt, lqz, lqs] at e0 e1 e2 e3 e4 e5
    clear HX HM1 m2
    go_wp2_with fail
    clear e0 e1 e2 e3 e4 e5 el hxx
    go_loopw [3, 13] (fun f i wr => ∃ k : Nat, k ≤ ln ∧ i = .int .i64 k ∧ f = .int .i64 (orF O (fz ((v.list.take k).map (vFault d)))) ∧ Hid (New w wr) ∧ Hid (Blk wr xb 30 #[.int .i64 kind, .bool flag, .int .i64 num, .string words, .slice la ln lc, .slice ma mn mc])) (fun _ i _ => ln - (intOf i).toNat)
    case atStart => exact ⟨0, Nat.zero_le _, rfl, congrArg _ (by simp [fz, orF_zero]), HM2, HX2⟩
    case round =>
      rename World => wr
      obtain ⟨k, hk, rfl, rfl, HM, HX⟩ := hrel
      by_cases hlt : k < ln
      · have hkl : k < v.list.length := by have := HLN.out; omega
        have hT := HT.out.new HM.out
        obtain ⟨g, o, y, hA, hgl, htb, -, hc, hty⟩ := hT.item hkl
        simp only at hA
        subst hA
        have HS : Hid (orF O (fz ((v.list.take (k + 1)).map (vFault d))) = orF (orF O (fz ((v.list.take k).map (vFault d)))) (vFault d v.list[k])) := hId (by rw [fz_map_take (vFault d) hkl, orF_assoc])
        obtain ⟨yk, yf, yn, yw, yla, yln, ylc, yma, ymn, ymc⟩ := y
        have c0 := hc 0 (by omega)
        have c1 := hc 1 (by omega)
        have c2 := hc 2 (by omega)
        have c3 := hc 3 (by omega)
        have c4 := hc 4 (by omega)
        have c5 := hc 5 (by omega)
        simp only [VA.enc, Nat.add_zero, Nat.zero_add] at c0 c1 c2 c3 c4 c5
        have hb1 : (0 : Int) ≤ k := by omega
        have hb2 : (k : Int) < ln := by omega
        have hma : New wr (wr.alloc (.cells #[.int .i64 yk, .bool yf, .int .i64 yn, .string yw, .slice yla yln ylc, .slice yma ymn ymc] 30)) := (Mod.refl _ _).alloc _
        have hI := HIH.out ⟨yk, yf, yn, yw, yla, yln, ylc, yma, ymn, ymc⟩ v.list[k] G (wr.alloc (.cells #[.int .i64 yk, .bool yf, .int .i64 yn, .string yw, .slice yla yln ylc, .slice yma ymn ymc] 30)) (hty.new hma) (HWI.out k hkl) (HU.out.new (HM.out.trans hma))
        have HMA := hId hma
        clear hT hc hty hma htb
        generalize orF O (fz ((v.list.take k).map (vFault d))) = f at *
        generalize vFault d v.list[k] = f2 at *
        go_wp2_with fail
        refine hI.mono ?_
        clear hI
        rintro e w5 ⟨rfl, m5⟩
        have hb6 := Blk.new w5 31 #[.int .i64 f, .int .i64 f2]
        have ho6 := or_two f f2 w5.heap.size _ hb6
        have HM6 := hId ((HMA.out.trans m5).alloc (.cells #[.int .i64 f, .int .i64 f2] 31))
        clear m5 hb6
        go_wp2_with fail
        refine ho6.mono ?_
        clear ho6
        rintro e w6 ⟨rfl, rfl⟩
        go_wp2_with fail
        go_roundw
        case rel => exact ⟨k + 1, by omega, by go_num, congrArg _ HS.out.symm, hId (HM.out.trans HM6.out), hId (HX.out.mod HM6.out (fun e => e))⟩
        case measure => simp [intOf]; omega
      · obtain rfl : k = ln := by omega
        rw [List.take_of_length_le (by have := HLN.out; omega)]
        have HF2 : Hid (F = orF (orF O (fz (v.list.map (vFault d)))) (fz (v.mem.map fun p => vFault d p.2))) := hId (by rw [HF.out, orF_assoc])
        generalize orF O (fz (v.list.map (vFault d))) = O2 at *
        have hxx := HX.out
        have e0 := hxx.cell 0
        have e1 := hxx.cell 1
        have e2 := hxx.cell 2
        have e3 := hxx.cell 3
        have e4 := hxx.cell 4
        have e5 := hxx.cell 5
        have el := hxx.lt
        simp only [lqt, lqz, lqs] at e0 e1 e2 e3 e4 e5
        have HM3 := HM
        clear HM hlt hk HF
        go_wp2_with fail
        clear e0 e1 e2 e3 e4 e5 el hxx
        go_loopw [3, 26] (fun f i wz => ∃ j : Nat, j ≤ mn ∧ i = .int .i64 j ∧ f = .int .i64 (orF O2 (fz ((v.mem.take j).map fun p => vFault d p.2))) ∧ Hid (New wr wz)) (fun _ i _ => mn - (intOf i).toNat)
        case atStart => exact ⟨0, Nat.zero_le _, rfl, congrArg _ (by simp [fz, orF_zero]), hId (Mod.refl _ _)⟩
        case round =>
          rename World => wz
          obtain ⟨j, hj, rfl, rfl, HM⟩ := hrel
          by_cases hlt : j < mn
          · have hjl : j < v.mem.length := by have := HMN.out; omega
            have hT := HT.out.new (HM3.out.trans HM.out)
            obtain ⟨g, o, y, hA, hgl, htb, -, hcn, hc, hty⟩ := hT.member hjl
            simp only at hA
            subst hA
            have HS : Hid (orF O2 (fz ((v.mem.take (j + 1)).map fun p => vFault d p.2)) = orF (orF O2 (fz ((v.mem.take j).map fun p => vFault d p.2))) (vFault d v.mem[j].2)) := hId (by rw [fz_map_take (fun p : ByteArray × VT => vFault d p.2) hjl, orF_assoc])
            obtain ⟨yk, yf, yn, yw, yla, yln, ylc, yma, ymn, ymc⟩ := y
            have c0 := hc 0 (by omega)
            have c1 := hc 1 (by omega)
            have c2 := hc 2 (by omega)
            have c3 := hc 3 (by omega)
            have c4 := hc 4 (by omega)
            have c5 := hc 5 (by omega)
            simp only [VA.enc, Nat.add_zero, Nat.zero_add] at c0 c1 c2 c3 c4 c5
            have hb1 : (0 : Int) ≤ j := by omega
            have hb2 : (j : Int) < mn := by omega
            have hwm := HWMB.out j hjl
            generalize v.mem[j].1 = nm at *
            have hma : New wz (wz.alloc (.cells #[.string nm, .int .i64 yk, .bool yf, .int .i64 yn, .string yw, .slice yla yln ylc, .slice yma ymn ymc] 60)) := (Mod.refl _ _).alloc _
            have hI := HIH.out ⟨yk, yf, yn, yw, yla, yln, ylc, yma, ymn, ymc⟩ v.mem[j].2 G (wz.alloc (.cells #[.string nm, .int .i64 yk, .bool yf, .int .i64 yn, .string yw, .slice yla yln ylc, .slice yma ymn ymc] 60)) (hty.new hma) hwm (HU.out.new ((HM3.out.trans HM.out).trans hma))
            have HMA := hId hma
            clear hT hc hty hma htb hwm
            generalize orF O2 (fz ((v.mem.take j).map fun p => vFault d p.2)) = f at *
            generalize vFault d v.mem[j].2 = f2 at *
            go_wp2_with fail
            refine hI.mono ?_
            clear hI
            rintro e w5 ⟨rfl, m5⟩
            have hb6 := Blk.new w5 31 #[.int .i64 f, .int .i64 f2]
            have ho6 := or_two f f2 w5.heap.size _ hb6
            have HM6 := hId ((HMA.out.trans m5).alloc (.cells #[.int .i64 f, .int .i64 f2] 31))
            clear m5 hb6
            go_wp2_with fail
            refine ho6.mono ?_
            clear ho6
            rintro e w6 ⟨rfl, rfl⟩
            go_wp2_with fail
            go_roundw
            case rel => exact ⟨j + 1, by omega, by go_num, congrArg _ HS.out.symm, hId (HM.out.trans HM6.out)⟩
            case measure => simp [intOf]; omega
          · obtain rfl : j = mn := by omega
            rw [List.take_of_length_le (by have := HMN.out; omega), ← HF2.out]
            go_wp2_with fail
            go_ret
            exact ⟨rfl, HM3.out.trans HM.out⟩

theorem Value.fault_big {d : Nat} {v : VT} {many deep : Nat} (h1 : many = vMany d v) (h2 : deep = vDeep d v) : vCheck d v = if 5000 < many ∨ 50 < deep then 2 else vFault d v := by
  unfold vCheck vBig
  rw [h1, h2]

set_option maxRecDepth 100000 in
set_option maxHeartbeats 1500000 in
theorem valueFault_v (d : Nat) (x : VA) (v : VT) (G : Nat → Prop) (w : World) (ht : Tree w G d x v) (hW : Fit d v) (hd : d ≤ 1000000) (hU : Utf8T w) :
    Calls Tryz.prog 22 #[x.val] w fun e w' => e = .returned (.int .i64 (vCheck d v)) ∧ New w w' := by
  have hsz := fun W (h : New w W) => sizeOf_v d x v G W (ht.new h) hW hd
  have hpf := fun W (h : New w W) => partsFault_v d x v G W (ht.new h) hW (hU.new h)
  have HC := hId (Value.fault_big (d := d) (v := v) rfl rfl)
  have hM := Nat.le_trans (vMany_le d v) hW.1
  have hD := Nat.le_trans (vDeep_le d v) hd
  obtain ⟨kind, flag, num, words, la, ln, lc, ma, mn, mc⟩ := x
  clear ht hU hW hd
  generalize vCheck d v = C at *
  generalize vMany d v = M at *
  generalize vDeep d v = D at *
  generalize vFault d v = F at *
  have hx := Blk.new w 30 #[.int .i64 kind, .bool flag, .int .i64 num, .string words, .slice la ln lc, .slice ma mn mc]
  have hm1 : New w (w.alloc (.cells #[.int .i64 kind, .bool flag, .int .i64 num, .string words, .slice la ln lc, .slice ma mn mc] 30)) := (Mod.refl _ _).alloc _
  go_enter Tryz.func22, Tryz.ntmps22
  go_upto_region 1 with (fail)
  generalize w.alloc (.cells #[.int .i64 kind, .bool flag, .int .i64 num, .string words, .slice la ln lc, .slice ma mn mc] 30) = w1 at *
  generalize w.heap.size = xb at *
  have hsz1 := hsz _ hm1
  have HX := hId hx
  have HM1 := hId hm1
  have hxx := hx
  clear hx hm1 hsz
  have e0 := hxx.cell 0
  have e1 := hxx.cell 1
  have e2 := hxx.cell 2
  have e3 := hxx.cell 3
  have e4 := hxx.cell 4
  have e5 := hxx.cell 5
  have el := hxx.lt
  simp only [lqt, lqz, lqs] at e0 e1 e2 e3 e4 e5
  go_wp2_with fail
  refine hsz1.mono ?_
  clear hsz1
  rintro e w2 ⟨rfl, m2⟩
  have HM2 := hId (HM1.out.trans m2)
  have hpf1 := fun W (h : New w2 W) => hpf W ((HM1.out.trans m2).trans h)
  have HX2 := hId (HX.out.mod m2 (fun e => e))
  clear e0 e1 e2 e3 e4 e5 el hxx
  have hxx := HX2.out
  have e0 := hxx.cell 0
  have e1 := hxx.cell 1
  have e2 := hxx.cell 2
  have e3 := hxx.cell 3
  have e4 := hxx.cell 4
  have e5 := hxx.cell 5
  have el := hxx.lt
  simp only [lqt, lqz, lqs] at e0 e1 e2 e3 e4 e5
  clear hpf m2 HX HM1
  by_cases h1 : 5000 < M
  · have g1 : (5000 : Int) < M := by omega
    have HE : Hid (C = 2) := hId (by rw [HC.out, if_pos (.inl h1)])
    clear h1
    go_wp2_with fail
    go_ret
    exact ⟨ret_int HE.out.symm, HM2.out⟩
  · have g1 : decide ((5000 : Int) < M) = false := by simp; omega
    by_cases h2 : 50 < D
    · have g2 : (50 : Int) < D := by omega
      have HE : Hid (C = 2) := hId (by rw [HC.out, if_pos (.inr h2)])
      clear h1 h2
      go_wp2_with fail
      go_ret
      exact ⟨ret_int HE.out.symm, HM2.out⟩
    · have g2 : decide ((50 : Int) < D) = false := by simp; omega
      have HE : Hid (C = F) := hId (by rw [HC.out, if_neg (by omega)])
      clear h1 h2
      have hpf2 := hpf1 w2 (Mod.refl _ _)
      clear hpf1
      go_wp2_with fail
      refine hpf2.mono ?_
      clear hpf2
      rintro e w3 ⟨rfl, m3⟩
      go_wp2_with fail
      go_ret
      exact ⟨ret_int HE.out.symm, HM2.out.trans m3⟩

set_option maxRecDepth 100000 in
set_option maxHeartbeats 1500000 in
theorem check_v (d : Nat) (x : VA) (v : VT) (G : Nat → Prop) (w : World) (ht : Tree w G d x v) (hW : Fit d v) (hU : Utf8T w) :
    Calls Tryz.prog 18 #[x.val] w fun e w' => e = .returned (.int .i64 (vCheck d v)) ∧ New w w' := by
  have HC := hId (Value.fault_big (d := d) (v := v) rfl rfl)
  have hl := fun W (h : New w W) cb (hb : Blk W cb 91 #[.int .i64 0]) => large_v d x v G W cb 0 1 (ht.new h) hb (by omega) (by omega) (by omega) hW
  have HFA := hId (fun W (h : New w W) => fault_v d x v G W (ht.new h) hW (hU.new h))
  obtain ⟨kind, flag, num, words, la, ln, lc, ma, mn, mc⟩ := x
  clear ht hU hW
  generalize vCheck d v = C at *
  generalize vMany d v = M at *
  generalize vDeep d v = D at *
  generalize vFault d v = F at *
  have hx := Blk.new w 30 #[.int .i64 kind, .bool flag, .int .i64 num, .string words, .slice la ln lc, .slice ma mn mc]
  have hm1 : New w (w.alloc (.cells #[.int .i64 kind, .bool flag, .int .i64 num, .string words, .slice la ln lc, .slice ma mn mc] 30)) := (Mod.refl _ _).alloc _
  go_enter Tryz.func18, Tryz.ntmps18
  go_upto_region 1 with (fail)
  generalize w.alloc (.cells #[.int .i64 kind, .bool flag, .int .i64 num, .string words, .slice la ln lc, .slice ma mn mc] 30) = w1 at *
  have HCB : Hid (w.heap.size ≤ w1.heap.size) := hId hm1.size
  generalize hxb : w.heap.size = xb at *
  have hcb := Blk.new w1 91 #[.int .i64 0]
  have hm2 : New w1 (w1.alloc (.cells #[.int .i64 0] 91)) := (Mod.refl _ _).alloc _
  go_upto_region 2 with (fail)
  generalize w1.alloc (.cells #[.int .i64 0] 91) = w2 at *
  have hne : xb ≠ w1.heap.size := by have := hx.lt; omega
  generalize w1.heap.size = cb at *
  have hm := hm1.trans hm2
  have hl1 := hl w2 hm cb hcb
  have hxx := hx.mod hm2 (fun e => e)
  have HX := hId hxx
  have HNE := hId hne
  have HM := hId hm
  have HXB := hId hxb
  clear hx hm1 hm2 hcb hm hl hne hxb
  have e0 := hxx.cell 0
  have e1 := hxx.cell 1
  have e2 := hxx.cell 2
  have e3 := hxx.cell 3
  have e4 := hxx.cell 4
  have e5 := hxx.cell 5
  have el := hxx.lt
  simp only [lqt, lqz, lqs] at e0 e1 e2 e3 e4 e5
  go_wp2_with fail
  refine hl1.mono ?_
  clear hl1
  rintro e w3 ⟨b, m', rfl, -, hm3, hno, hyes⟩
  have HM3 : Hid (New w w3) := hId (HM.out.step hm3 (fun i hi e => by have := HCB.out; have := HXB.out; omega))
  clear e0 e1 e2 e3 e4 e5 el hxx
  have hxx := HX.out.mod hm3 HNE.out
  have e0 := hxx.cell 0
  have e1 := hxx.cell 1
  have e2 := hxx.cell 2
  have e3 := hxx.cell 3
  have e4 := hxx.cell 4
  have e5 := hxx.cell 5
  have el := hxx.lt
  simp only [lqt, lqz, lqs] at e0 e1 e2 e3 e4 e5
  clear hm3
  cases b with
  | true =>
    have HE : Hid (C = 2) := hId (by rw [HC.out, if_pos (by have := hyes rfl; omega)])
    clear hno hyes
    go_wp2_with fail
    go_ret
    exact ⟨ret_int HE.out.symm, HM3.out⟩
  | false =>
    have HE : Hid (C = F) := hId (by rw [HC.out, if_neg (by have := hno rfl; omega)])
    have hf1 := HFA.out w3 HM3.out
    clear hno hyes
    go_wp2_with fail
    refine hf1.mono ?_
    clear hf1
    rintro e w4 ⟨rfl, m4⟩
    go_wp2_with fail
    go_ret
    exact ⟨ret_int HE.out.symm, HM3.out.trans m4⟩



set_option maxRecDepth 100000 in
set_option maxHeartbeats 1500000 in
theorem textOf_v (d : Nat) (x : VA) (v : VT) (G : Nat → Prop) (w : World) (ht : Tree w G (d + 1) x v) (hf : Fit (d + 1) v) (hr : vFault (d + 1) v = 0) (hw : vW (d + 1) v ≤ 200000) (hP : Pow10 w) :
    Calls Tryz.prog 53 #[x.val] w fun e w' => e = .returned (.tuple #[.string ⟨(vText (d + 1) v).toArray⟩, .bool true]) ∧ New w w' := by
  have hvl := vText_length (d + 1) v hr
  have hne := vText_ne d v
  have HWV := hId (fun W b (h : New w W) hb => writerValue_v w hP w.heap.size b (Nat.le_refl _) (d + 1) x v G [] W (ht.new h) hb hf hr (by simpa using hw) (hP.new h))
  generalize vText (d + 1) v = T at *
  obtain ⟨kind, flag, num, words, la, ln, lc, ma, mn, mc⟩ := x
  clear ht hf hr hP
  have hx := Blk.new w 30 #[.int .i64 kind, .bool flag, .int .i64 num, .string words, .slice la ln lc, .slice ma mn mc]
  have hm1 : New w (w.alloc (.cells #[.int .i64 kind, .bool flag, .int .i64 num, .string words, .slice la ln lc, .slice ma mn mc] 30)) := (Mod.refl _ _).alloc _
  go_enter Tryz.func53, Tryz.ntmps53
  go_upto_region 1 with (fail)
  have hsz : (w.alloc (.cells #[.int .i64 kind, .bool flag, .int .i64 num, .string words, .slice la ln lc, .slice ma mn mc] 30)).heap.size = w.heap.size + 1 := by simp
  generalize w.alloc (.cells #[.int .i64 kind, .bool flag, .int .i64 num, .string words, .slice la ln lc, .slice ma mn mc] 30) = w1 at *
  have hb := Blk.new w1 142 #[.pointer none, .slice none 0 0]
  have hm2 : New w1 (w1.alloc (.cells #[.pointer none, .slice none 0 0] 142)) := (Mod.refl _ _).alloc _
  go_upto_region 2 with (fail)
  generalize w1.alloc (.cells #[.pointer none, .slice none 0 0] 142) = w2 at *
  have HBB : Hid (w.heap.size ≤ w1.heap.size) := hId (by omega)
  have hne2 : w.heap.size ≠ w1.heap.size := by omega
  have hxx := hx.mod hm2 (fun e => e)
  have HBF := hId (Bw.fresh hb (show w.heap.size ≤ w1.heap.size by omega))
  rw [hsz] at hb hne2 HBF
  generalize w.heap.size + 1 = b at *
  clear hsz HBB
  have hwv := HWV.out w2 b (hm1.trans hm2) HBF.out
  have HM := hId (hm1.trans hm2)
  have hbl := hb.lt
  clear hx hm1 hm2 hb hne2
  have e0 := hxx.cell 0
  have e1 := hxx.cell 1
  have e2 := hxx.cell 2
  have e3 := hxx.cell 3
  have e4 := hxx.cell 4
  have e5 := hxx.cell 5
  have el := hxx.lt
  simp only [lqt, lqz, lqs] at e0 e1 e2 e3 e4 e5
  clear hxx
  go_wp2_with fail
  refine hwv.mono ?_
  clear hwv
  rintro e w3 ⟨rfl, hb3, hs3⟩
  have HM3 : Hid (New w w3) := hId (New.from HM.out hs3.1 (Nat.le_refl _))
  have HB3 : Hid (Bw 142 w.heap.size b T w3) := hId (by simpa using hb3)
  clear hb3 hs3 e0 e1 e2 e3 e4 e5 el hbl
  have hfu := full_v w.heap.size b T w3 HB3.out (by omega)
  have hbl := HB3.out.lt.2
  go_wp2_with fail
  refine hfu.mono ?_
  clear hfu
  rintro e w3 ⟨rfl, rfl⟩
  have hgv := bw_give w.heap.size b T w3 HB3.out hne
  go_wp2_with fail
  refine hgv.mono ?_
  clear hgv
  rintro e w4 ⟨rfl, m4⟩
  go_wp2_with fail
  go_ret2
  exact ⟨rfl, New.from HM3.out m4 (Nat.le_refl _)⟩

set_option maxRecDepth 100000 in
set_option maxHeartbeats 1500000 in
theorem text_v (d : Nat) (x : VA) (v : VT) (G : Nat → Prop) (w : World) (ht : Tree w G (d + 1) x v) (hf : Fit (d + 1) v) (hw : vW (d + 1) v ≤ 200000) (hP : Pow10 w) (hU : Utf8T w) :
    Calls Tryz.prog 26 #[x.val] w fun e w' => e = .returned (.tuple #[.string (if vCheck (d + 1) v ≠ 0 then ⟨#[]⟩ else ⟨(vText (d + 1) v).toArray⟩), .int .i64 (vCheck (d + 1) v)]) ∧ New w w' := by
  have HCH := hId (fun W (h : New w W) => check_v (d + 1) x v G W (ht.new h) hf (hU.new h))
  have hcf : vCheck (d + 1) v = 0 → vFault (d + 1) v = 0 := fun h => by
    unfold vCheck at h
    split at h
    · cases h
    · exact h
  have HTX := hId (fun W (h : New w W) hr => textOf_v d x v G W (ht.new h) hf (hcf hr) hw (hP.new h))
  generalize vCheck (d + 1) v = c at *
  obtain ⟨R, hR⟩ : ∃ R : ByteArray, R = if c ≠ 0 then ⟨#[]⟩ else ⟨(vText (d + 1) v).toArray⟩ := ⟨_, rfl⟩
  rw [← hR]
  have HR := hId hR
  generalize vText (d + 1) v = T at *
  obtain ⟨kind, flag, num, words, la, ln, lc, ma, mn, mc⟩ := x
  clear ht hf hw hP hU hcf hR
  have hx := Blk.new w 30 #[.int .i64 kind, .bool flag, .int .i64 num, .string words, .slice la ln lc, .slice ma mn mc]
  have hm1 : New w (w.alloc (.cells #[.int .i64 kind, .bool flag, .int .i64 num, .string words, .slice la ln lc, .slice ma mn mc] 30)) := (Mod.refl _ _).alloc _
  go_enter Tryz.func26, Tryz.ntmps26
  go_upto_region 1 with (fail)
  generalize w.alloc (.cells #[.int .i64 kind, .bool flag, .int .i64 num, .string words, .slice la ln lc, .slice ma mn mc] 30) = w1 at *
  generalize w.heap.size = xb at *
  have hch := HCH.out _ hm1
  have HX := hId hx
  have HM1 := hId hm1
  have hxx := hx
  clear hx hm1
  have e0 := hxx.cell 0
  have e1 := hxx.cell 1
  have e2 := hxx.cell 2
  have e3 := hxx.cell 3
  have e4 := hxx.cell 4
  have e5 := hxx.cell 5
  have el := hxx.lt
  simp only [lqt, lqz, lqs] at e0 e1 e2 e3 e4 e5
  clear hxx
  go_wp2_with fail
  refine hch.mono ?_
  clear hch
  rintro e w2 ⟨rfl, m2⟩
  have HM2 := hId (HM1.out.trans m2)
  have HX2 := hId (HX.out.mod m2 (fun e => e))
  clear e0 e1 e2 e3 e4 e5 el m2
  by_cases hz : c = 0
  · subst hz
    have HRET : Hid (Ending.returned (.tuple #[.string ⟨T.toArray⟩, .int .i64 0]) = Ending.returned (.tuple #[.string R, .int .i64 0])) := hId (by rw [HR.out]; simp)
    have hxx := HX2.out
    have e0 := hxx.cell 0
    have e1 := hxx.cell 1
    have e2 := hxx.cell 2
    have e3 := hxx.cell 3
    have e4 := hxx.cell 4
    have e5 := hxx.cell 5
    have el := hxx.lt
    simp only [lqt, lqz, lqs] at e0 e1 e2 e3 e4 e5
    clear hxx
    have htx := HTX.out _ HM2.out rfl
    go_wp2_with fail
    refine htx.mono ?_
    clear htx
    rintro e w3 ⟨rfl, m3⟩
    go_wp2_with fail
    go_ret2
    exact ⟨Eq.trans rfl HRET.out, HM2.out.trans m3⟩
  · have hz1 : (c != 0) = true := by simpa using hz
    have HRET : Hid (Ending.returned (.tuple #[.string ⟨#[]⟩, .int .i64 c]) = Ending.returned (.tuple #[.string R, .int .i64 c])) := hId (by rw [HR.out, if_pos hz])
    clear hz
    go_wp2_with fail
    go_ret2
    exact ⟨Eq.trans rfl HRET.out, HM2.out⟩


section
variable {β : Type}
end


theorem Tree.rows {w : World} {G : Nat → Prop} {d : Nat} {x : VA} {v : VT} (h : Tree w G (d + 1) x v) : ∃ (xs : List VA) (ms : List MA), Row w G 30 6 VA.enc x.la x.ln xs ∧ xs.length = v.list.length ∧ (∀ i (h : i < xs.length) (h' : i < v.list.length), Tree w G d xs[i] v.list[i]) ∧
    Row w G 60 7 MA.enc x.ma x.mn ms ∧ ms.length = v.mem.length ∧ ∀ i (h : i < ms.length) (h' : i < v.mem.length), ms[i].name = v.mem[i].1 ∧ Tree w G d ms[i].v v.mem[i].2 := by
  obtain ⟨vs, ps, rfl, ⟨xs, h1, h2, h3⟩, ⟨ms, h4, h5, h6⟩⟩ := h
  exact ⟨xs, ms, h1, h2, h3, h4, h5, h6⟩
--begin1

/-- a step as its cells say -/
structure St where
  named : Bool
  name : ByteArray
  at_ : Int
structure ChD where
  kind : Int
  path : List St
  val : VT
/-! the order of strings -/
theorem cb_zero : ∀ a b : List UInt8, Lib.compareBytes a b = 0 ↔ a = b
  | [], [] => by simp [Lib.compareBytes]
  | [], _ :: _ => by simp [Lib.compareBytes]
  | _ :: _, [] => by simp [Lib.compareBytes]
  | a :: xs, b :: ys => by
    unfold Lib.compareBytes
    split
    · rename_i h
      have : a ≠ b := fun e => by subst e; exact absurd h (UInt8.lt_irrefl _)
      simp [this]
    · split
      · rename_i h1 h
        have : a ≠ b := fun e => by subst e; exact absurd h (UInt8.lt_irrefl _)
        simp [this]
      · rename_i h1 h2
        have : a = b := by
          have h3 : ¬ a.toNat < b.toNat := h1
          have h4 : ¬ b.toNat < a.toNat := h2
          exact UInt8.toNat_inj.1 (by omega)
        rw [cb_zero xs ys]
        simp [this]
theorem cb_swap : ∀ a b : List UInt8, Lib.compareBytes b a = - Lib.compareBytes a b
  | [], [] => by simp [Lib.compareBytes]
  | [], _ :: _ => by simp [Lib.compareBytes]
  | _ :: _, [] => by simp [Lib.compareBytes]
  | a :: xs, b :: ys => by
    unfold Lib.compareBytes
    rw [cb_swap xs ys]
    by_cases h1 : a < b
    · have : ¬ b < a := by
        have h3 : a.toNat < b.toNat := h1
        intro h; have h4 : b.toNat < a.toNat := h; omega
      simp [h1, this]
    · by_cases h2 : b < a
      · simp [h1, h2]
      · simp [h1, h2]
theorem cb_trans : ∀ a b c : List UInt8, Lib.compareBytes a b < 0 → Lib.compareBytes b c < 0 → Lib.compareBytes a c < 0
  | [], [], _ => fun h => by simp [Lib.compareBytes] at h
  | [], _ :: _, [] => fun _ h => by simp [Lib.compareBytes] at h
  | [], _ :: _, _ :: _ => fun _ _ => by simp [Lib.compareBytes]
  | _ :: _, [], _ => fun h => by simp [Lib.compareBytes] at h
  | _ :: _, _ :: _, [] => fun _ h => by simp [Lib.compareBytes] at h
  | a :: xs, b :: ys, c :: zs => by
    intro h1 h2
    unfold Lib.compareBytes at h1 h2 ⊢
    have key : ∀ x y : UInt8, (x < y) = (x.toNat < y.toNat) := fun _ _ => rfl
    simp only [key] at h1 h2 ⊢
    by_cases e1 : a.toNat < b.toNat
    · by_cases e2 : b.toNat < c.toNat
      · rw [if_pos (by omega)]; omega
      · rw [if_neg e2] at h2
        by_cases e3 : c.toNat < b.toNat
        · rw [if_pos e3] at h2; omega
        · rw [if_pos (by omega)]; omega
    · rw [if_neg e1] at h1
      by_cases e3 : b.toNat < a.toNat
      · rw [if_pos e3] at h1; omega
      · rw [if_neg e3] at h1
        by_cases e2 : b.toNat < c.toNat
        · rw [if_pos (by omega)]; omega
        · rw [if_neg e2] at h2
          by_cases e4 : c.toNat < b.toNat
          · rw [if_pos e4] at h2; omega
          · rw [if_neg e4] at h2
            rw [if_neg (by omega), if_neg (by omega)]
            exact cb_trans xs ys zs h1 h2
theorem ba_ext {a b : ByteArray} (h : a.data.toList = b.data.toList) : a = b := by
  cases a; cases b; congr; exact Array.toList_inj.1 h
theorem cmpB_zero (a b : ByteArray) : cmpB a b = 0 ↔ a = b := by
  unfold cmpB
  rw [cb_zero]
  exact ⟨ba_ext, fun e => by rw [e]⟩
theorem cmpB_swap (a b : ByteArray) : cmpB b a = - cmpB a b := cb_swap _ _
theorem cmpB_trans {a b c : ByteArray} (h1 : cmpB a b < 0) (h2 : cmpB b c < 0) : cmpB a c < 0 := cb_trans _ _ _ h1 h2
theorem cmpB_self (a : ByteArray) : cmpB a a = 0 := (cmpB_zero a a).2 rfl
theorem ba_toList (a : ByteArray) : a.toList = a.data.toList := by simp [ByteArray.toList_eq]
/-! names in order -/
abbrev Mem := ByteArray × VT
/-- how many names stand ahead of a name -/
def place : List Mem → ByteArray → Nat
  | [], _ => 0
  | p :: l, s => if cmpB p.1 s < 0 then place l s + 1 else 0
def hasAt (l : List Mem) (s : ByteArray) : Bool := match l[place l s]? with | some p => decide (p.1 = s) | none => false
/-- to put a member where it belongs -/
def insM (l : List Mem) (x : Mem) : List Mem := l.take (place l x.1) ++ x :: l.drop (place l x.1)
def putM (l : List Mem) (x : Mem) : List Mem := insM (l.filter fun p => !decide (p.1 = x.1)) x
theorem fz_zero {l : List Int} (h : fz l = 0) : ∀ x ∈ l, x = 0 := by
  induction l with
  | nil => intro x hx; cases hx
  | cons a l ih =>
    simp only [fz] at h
    split at h
    · rename_i h2; exact absurd h h2
    · rename_i h2
      intro x hx
      rcases List.mem_cons.1 hx with rfl | hx
      · omega
      · exact ih h x hx
/-! one change -/
def atV (v : VT) (s : St) : Option VT :=
  if s.named = true then (if v.kind = 5 ∧ hasAt v.mem s.name = true then (v.mem[place v.mem s.name]?).map (·.2) else none)
  else if v.kind = 4 then v.list[s.at_.toNat]? else none
end Go.Proofs.YtjmnkdkdjnmejaaGreatDoor
