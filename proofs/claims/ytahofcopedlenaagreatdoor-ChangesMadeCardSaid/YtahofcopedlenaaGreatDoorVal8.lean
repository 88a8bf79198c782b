/- What is wrong with a value and with all in it: the reference's partsFault, ValueFault; the program's Check, checks. Conditions: the value stands in memory as a tree; the library's tables lie as they should. -/
import Derived.Test.YtahofcopedlenaaGreatDoorVal7
import Derived.Test.YtahofcopedlenaaGreatDoorVal5
import Derived.Test.YtahofcopedlenaaGreatDoorOr
namespace Go.Proofs.YtahofcopedlenaaGreatDoor
open Go.RowKit
set_option linter.unusedVariables false
set_option linter.unusedSimpArgs false

theorem orF_assoc (a b c : Int) : orF (orF a b) c = orF a (orF b c) := by
  unfold orF
  by_cases h : a = 0 <;> simp [h]
theorem orL_two (a b : Int) : orL [a, b] = orF a b := by
  unfold orL orL orL orF
  by_cases h : a = 0 <;> by_cases h2 : b = 0 <;> simp [h, h2]
theorem orF_zero (a : Int) : orF a 0 = a := by
  unfold orF
  by_cases h : a = 0 <;> simp [h]
theorem or_two (a b : Int) (g : Nat) (w : World) (hb : Blk w g 32 #[.int .i64 a, .int .i64 b]) :
    Calls Tryz.prog 10 #[.slice (some ⟨g, 0, none⟩) 2 2] w fun e w' => e = .returned (.int .i64 (orF a b)) ∧ w = w' := by
  have := cmpOr_any [a, b] g 2 w hb rfl (by omega)
  rwa [orL_two] at this

set_option maxRecDepth 100000 in
set_option maxHeartbeats 1500000 in
theorem partsFault_v (d : Nat) : ∀ (x : VA) (v : VT) (G : Nat → Prop) (w : World), Tree w G d x v → Fit d v → Utf8T w →
    Calls Tryz.prog 24 #[x.val] w fun e w' => e = .returned (.int .i64 (vFault d v)) ∧ New w w' := by
  induction d with
  | zero => intro x v G w ht; exact ht.elim
  | succ d ih =>
    intro x v G w ht hW hU
    have hwp := hW.parts
    have HWI := Lib.hid (fun k (h : k < v.list.length) => hW.item h)
    have HWMB := Lib.hid (fun k (h : k < v.mem.length) => (hW.member h).1)
    have hfl := ht.fields
    have hof := fun W (h : New w W) => ownFault_v d x v G W (ht.new h) hW (hU.new h)
    have HT := Lib.hid ht
    have HU := Lib.hid hU
    have HIH := Lib.hid ih
    have HF : Hid (vFault (d + 1) v = orF (ownF v) (orF (fz (v.list.map (vFault d))) (fz (v.mem.map fun p => vFault d p.2)))) := Lib.hid rfl
    have hlb : v.list.length ≤ 200000 ∧ v.mem.length ≤ 200000 := by omega
    obtain ⟨hlb1, hlb2⟩ := hlb
    obtain ⟨kind, flag, num, words, la, ln, lc, ma, mn, mc⟩ := x
    obtain ⟨-, -, -, hwd, hln, hmn⟩ := hfl
    simp only at hln hmn hwd
    have HLN := Lib.hid hln
    have HMN := Lib.hid hmn
    rw [hln] at hlb1
    rw [hmn] at hlb2
    clear hwp hW ht hU ih hln hmn hwd
    generalize vFault (d + 1) v = F at *
    generalize ownF v = O at *
    have hx := Blk.new w 29 #[.int .i64 kind, .bool flag, .int .i64 num, .string words, .slice la ln lc, .slice ma mn mc]
    have hm1 : New w (w.alloc (.cells #[.int .i64 kind, .bool flag, .int .i64 num, .string words, .slice la ln lc, .slice ma mn mc] 29)) := (Mod.refl _ _).alloc _
    go_enter Tryz.func24, Tryz.ntmps24
    go_upto_region 1 with (fail)
    generalize w.alloc (.cells #[.int .i64 kind, .bool flag, .int .i64 num, .string words, .slice la ln lc, .slice ma mn mc] 29) = w1 at *
    generalize w.heap.size = xb at *
    have hof1 := hof _ hm1
    have HX := Lib.hid hx
    have HM1 := Lib.hid hm1
    have hxx := hx
    clear hx hm1 hof
    have e0 := hxx.cell 0
    have e1 := hxx.cell 1
    have e2 := hxx.cell 2
    have e3 := hxx.cell 3
    have e4 := hxx.cell 4
    have e5 := hxx.cell 5
    have el := hxx.lt
    simp only [List.getElem?_toArray, List.getElem?_cons_zero, List.getElem?_cons_succ] at e0 e1 e2 e3 e4 e5
    go_wp2_with fail
    refine hof1.mono ?_
    clear hof1
    rintro e w2 ⟨rfl, m2⟩
    have HX2 := Lib.hid (HX.out.mod m2 (fun e => e))
    have HM2 := Lib.hid (HM1.out.trans m2)
    clear e0 e1 e2 e3 e4 e5 el hxx
    have hxx := HX2.out
    have e0 := hxx.cell 0
    have e1 := hxx.cell 1
    have e2 := hxx.cell 2
    have e3 := hxx.cell 3
    have e4 := hxx.cell 4
    have e5 := hxx.cell 5
    have el := hxx.lt
    simp only [List.getElem?_toArray, List.getElem?_cons_zero, List.getElem?_cons_succ] at e0 e1 e2 e3 e4 e5
    clear HX HM1 m2
    go_wp2_with fail
    clear e0 e1 e2 e3 e4 e5 el hxx
    go_loopw [3, 13] (fun f i wr => ∃ k : Nat, k ≤ ln ∧ i = .int .i64 k ∧ f = .int .i64 (orF O (fz ((v.list.take k).map (vFault d)))) ∧ Hid (New w wr) ∧ Hid (Blk wr xb 29 #[.int .i64 kind, .bool flag, .int .i64 num, .string words, .slice la ln lc, .slice ma mn mc])) (fun _ i _ => ln - (intOf i).toNat)
    case atStart => exact ⟨0, Nat.zero_le _, rfl, congrArg _ (by simp [fz, orF_zero]), HM2, HX2⟩
    case round =>
      rename World => wr
      obtain ⟨k, hk, rfl, rfl, HM, HX⟩ := hrel
      by_cases hlt : k < ln
      · have hkl : k < v.list.length := by have := HLN.out; omega
        have hT := HT.out.new HM.out
        obtain ⟨g, o, y, hA, hgl, htb, -, hc, hty⟩ := hT.item hkl
        simp only at hA
        subst hA
        have HS : Hid (orF O (fz ((v.list.take (k + 1)).map (vFault d))) = orF (orF O (fz ((v.list.take k).map (vFault d)))) (vFault d v.list[k])) := Lib.hid (by rw [fz_map_take (vFault d) hkl, orF_assoc])
        obtain ⟨yk, yf, yn, yw, yla, yln, ylc, yma, ymn, ymc⟩ := y
        have c0 := hc 0 (by omega)
        have c1 := hc 1 (by omega)
        have c2 := hc 2 (by omega)
        have c3 := hc 3 (by omega)
        have c4 := hc 4 (by omega)
        have c5 := hc 5 (by omega)
        simp only [VA.enc, Nat.add_zero, Nat.zero_add] at c0 c1 c2 c3 c4 c5
        have hb1 : (0 : Int) ≤ k := by omega
        have hb2 : (k : Int) < ln := by omega
        have hma : New wr (wr.alloc (.cells #[.int .i64 yk, .bool yf, .int .i64 yn, .string yw, .slice yla yln ylc, .slice yma ymn ymc] 29)) := (Mod.refl _ _).alloc _
        have hI := HIH.out ⟨yk, yf, yn, yw, yla, yln, ylc, yma, ymn, ymc⟩ v.list[k] G (wr.alloc (.cells #[.int .i64 yk, .bool yf, .int .i64 yn, .string yw, .slice yla yln ylc, .slice yma ymn ymc] 29)) (hty.new hma) (HWI.out k hkl) (HU.out.new (HM.out.trans hma))
        have HMA := Lib.hid hma
        clear hT hc hty hma htb
        generalize orF O (fz ((v.list.take k).map (vFault d))) = f at *
        generalize vFault d v.list[k] = f2 at *
        go_wp2_with fail
        refine hI.mono ?_
        clear hI
        rintro e w5 ⟨rfl, m5⟩
        have hb6 := Blk.new w5 32 #[.int .i64 f, .int .i64 f2]
        have ho6 := or_two f f2 w5.heap.size _ hb6
        have HM6 := Lib.hid ((HMA.out.trans m5).alloc (.cells #[.int .i64 f, .int .i64 f2] 32))
        clear m5 hb6
        go_wp2_with fail
        refine ho6.mono ?_
        clear ho6
        rintro e w6 ⟨rfl, rfl⟩
        go_wp2_with fail
        go_roundw
        case rel => exact ⟨k + 1, by omega, by go_num, congrArg _ HS.out.symm, Lib.hid (HM.out.trans HM6.out), Lib.hid (HX.out.mod HM6.out (fun e => e))⟩
        case measure => simp [intOf]; omega
      · obtain rfl : k = ln := by omega
        rw [List.take_of_length_le (by have := HLN.out; omega)]
        have HF2 : Hid (F = orF (orF O (fz (v.list.map (vFault d)))) (fz (v.mem.map fun p => vFault d p.2))) := Lib.hid (by rw [HF.out, orF_assoc])
        generalize orF O (fz (v.list.map (vFault d))) = O2 at *
        have hxx := HX.out
        have e0 := hxx.cell 0
        have e1 := hxx.cell 1
        have e2 := hxx.cell 2
        have e3 := hxx.cell 3
        have e4 := hxx.cell 4
        have e5 := hxx.cell 5
        have el := hxx.lt
        simp only [List.getElem?_toArray, List.getElem?_cons_zero, List.getElem?_cons_succ] at e0 e1 e2 e3 e4 e5
        have HM3 := HM
        clear HM hlt hk HF
        go_wp2_with fail
        clear e0 e1 e2 e3 e4 e5 el hxx
        go_loopw [3, 26] (fun f i wz => ∃ j : Nat, j ≤ mn ∧ i = .int .i64 j ∧ f = .int .i64 (orF O2 (fz ((v.mem.take j).map fun p => vFault d p.2))) ∧ Hid (New wr wz)) (fun _ i _ => mn - (intOf i).toNat)
        case atStart => exact ⟨0, Nat.zero_le _, rfl, congrArg _ (by simp [fz, orF_zero]), Lib.hid (Mod.refl _ _)⟩
        case round =>
          rename World => wz
          obtain ⟨j, hj, rfl, rfl, HM⟩ := hrel
          by_cases hlt : j < mn
          · have hjl : j < v.mem.length := by have := HMN.out; omega
            have hT := HT.out.new (HM3.out.trans HM.out)
            obtain ⟨g, o, y, hA, hgl, htb, -, hcn, hc, hty⟩ := hT.member hjl
            simp only at hA
            subst hA
            have HS : Hid (orF O2 (fz ((v.mem.take (j + 1)).map fun p => vFault d p.2)) = orF (orF O2 (fz ((v.mem.take j).map fun p => vFault d p.2))) (vFault d v.mem[j].2)) := Lib.hid (by rw [fz_map_take (fun p : ByteArray × VT => vFault d p.2) hjl, orF_assoc])
            obtain ⟨yk, yf, yn, yw, yla, yln, ylc, yma, ymn, ymc⟩ := y
            have c0 := hc 0 (by omega)
            have c1 := hc 1 (by omega)
            have c2 := hc 2 (by omega)
            have c3 := hc 3 (by omega)
            have c4 := hc 4 (by omega)
            have c5 := hc 5 (by omega)
            simp only [VA.enc, Nat.add_zero, Nat.zero_add] at c0 c1 c2 c3 c4 c5
            have hb1 : (0 : Int) ≤ j := by omega
            have hb2 : (j : Int) < mn := by omega
            have hwm := HWMB.out j hjl
            generalize v.mem[j].1 = nm at *
            have hma : New wz (wz.alloc (.cells #[.string nm, .int .i64 yk, .bool yf, .int .i64 yn, .string yw, .slice yla yln ylc, .slice yma ymn ymc] 49)) := (Mod.refl _ _).alloc _
            have hI := HIH.out ⟨yk, yf, yn, yw, yla, yln, ylc, yma, ymn, ymc⟩ v.mem[j].2 G (wz.alloc (.cells #[.string nm, .int .i64 yk, .bool yf, .int .i64 yn, .string yw, .slice yla yln ylc, .slice yma ymn ymc] 49)) (hty.new hma) hwm (HU.out.new ((HM3.out.trans HM.out).trans hma))
            have HMA := Lib.hid hma
            clear hT hc hty hma htb hwm
            generalize orF O2 (fz ((v.mem.take j).map fun p => vFault d p.2)) = f at *
            generalize vFault d v.mem[j].2 = f2 at *
            go_wp2_with fail
            refine hI.mono ?_
            clear hI
            rintro e w5 ⟨rfl, m5⟩
            have hb6 := Blk.new w5 32 #[.int .i64 f, .int .i64 f2]
            have ho6 := or_two f f2 w5.heap.size _ hb6
            have HM6 := Lib.hid ((HMA.out.trans m5).alloc (.cells #[.int .i64 f, .int .i64 f2] 32))
            clear m5 hb6
            go_wp2_with fail
            refine ho6.mono ?_
            clear ho6
            rintro e w6 ⟨rfl, rfl⟩
            go_wp2_with fail
            go_roundw
            case rel => exact ⟨j + 1, by omega, by go_num, congrArg _ HS.out.symm, Lib.hid (HM.out.trans HM6.out)⟩
            case measure => simp [intOf]; omega
          · obtain rfl : j = mn := by omega
            rw [List.take_of_length_le (by have := HMN.out; omega), ← HF2.out]
            go_wp2_with fail
            go_ret
            exact ⟨rfl, HM3.out.trans HM.out⟩

theorem Value.fault_big {d : Nat} {v : VT} {many deep : Nat} (h1 : many = vMany d v) (h2 : deep = vDeep d v) : vCheck d v = if 5000 < many ∨ 50 < deep then 2 else vFault d v := by
  unfold vCheck vBig
  rw [h1, h2]

set_option maxRecDepth 100000 in
set_option maxHeartbeats 1500000 in
theorem valueFault_v (d : Nat) (x : VA) (v : VT) (G : Nat → Prop) (w : World) (ht : Tree w G d x v) (hW : Fit d v) (hd : d ≤ 1000) (hU : Utf8T w) :
    Calls Tryz.prog 5 #[x.val] w fun e w' => e = .returned (.int .i64 (vCheck d v)) ∧ New w w' := by
  have hsz := fun W (h : New w W) => sizeOf_v d x v G W (ht.new h) hW hd
  have hpf := fun W (h : New w W) => partsFault_v d x v G W (ht.new h) hW (hU.new h)
  have HC := Lib.hid (Value.fault_big (d := d) (v := v) rfl rfl)
  have hM := Nat.le_trans (vMany_le d v) hW.1
  have hD := Nat.le_trans (vDeep_le d v) hd
  obtain ⟨kind, flag, num, words, la, ln, lc, ma, mn, mc⟩ := x
  clear ht hU hW hd
  generalize vCheck d v = C at *
  generalize vMany d v = M at *
  generalize vDeep d v = D at *
  generalize vFault d v = F at *
  have hx := Blk.new w 29 #[.int .i64 kind, .bool flag, .int .i64 num, .string words, .slice la ln lc, .slice ma mn mc]
  have hm1 : New w (w.alloc (.cells #[.int .i64 kind, .bool flag, .int .i64 num, .string words, .slice la ln lc, .slice ma mn mc] 29)) := (Mod.refl _ _).alloc _
  go_enter Tryz.func5, Tryz.ntmps5
  go_upto_region 1 with (fail)
  generalize w.alloc (.cells #[.int .i64 kind, .bool flag, .int .i64 num, .string words, .slice la ln lc, .slice ma mn mc] 29) = w1 at *
  generalize w.heap.size = xb at *
  have hsz1 := hsz _ hm1
  have HX := Lib.hid hx
  have HM1 := Lib.hid hm1
  have hxx := hx
  clear hx hm1 hsz
  have e0 := hxx.cell 0
  have e1 := hxx.cell 1
  have e2 := hxx.cell 2
  have e3 := hxx.cell 3
  have e4 := hxx.cell 4
  have e5 := hxx.cell 5
  have el := hxx.lt
  simp only [List.getElem?_toArray, List.getElem?_cons_zero, List.getElem?_cons_succ] at e0 e1 e2 e3 e4 e5
  go_wp2_with fail
  refine hsz1.mono ?_
  clear hsz1
  rintro e w2 ⟨rfl, m2⟩
  have HM2 := Lib.hid (HM1.out.trans m2)
  have hpf1 := fun W (h : New w2 W) => hpf W ((HM1.out.trans m2).trans h)
  have HX2 := Lib.hid (HX.out.mod m2 (fun e => e))
  clear e0 e1 e2 e3 e4 e5 el hxx
  have hxx := HX2.out
  have e0 := hxx.cell 0
  have e1 := hxx.cell 1
  have e2 := hxx.cell 2
  have e3 := hxx.cell 3
  have e4 := hxx.cell 4
  have e5 := hxx.cell 5
  have el := hxx.lt
  simp only [List.getElem?_toArray, List.getElem?_cons_zero, List.getElem?_cons_succ] at e0 e1 e2 e3 e4 e5
  clear hpf m2 HX HM1
  by_cases h1 : 5000 < M
  · have g1 : (5000 : Int) < M := by omega
    have HE : Hid (C = 2) := Lib.hid (by rw [HC.out, if_pos (.inl h1)])
    clear h1
    go_wp2_with fail
    go_ret
    exact ⟨ret_int HE.out.symm, HM2.out⟩
  · have g1 : decide ((5000 : Int) < M) = false := by simp; omega
    by_cases h2 : 50 < D
    · have g2 : (50 : Int) < D := by omega
      have HE : Hid (C = 2) := Lib.hid (by rw [HC.out, if_pos (.inr h2)])
      clear h1 h2
      go_wp2_with fail
      go_ret
      exact ⟨ret_int HE.out.symm, HM2.out⟩
    · have g2 : decide ((50 : Int) < D) = false := by simp; omega
      have HE : Hid (C = F) := Lib.hid (by rw [HC.out, if_neg (by omega)])
      clear h1 h2
      have hpf2 := hpf1 w2 (Mod.refl _ _)
      clear hpf1
      go_wp2_with fail
      refine hpf2.mono ?_
      clear hpf2
      rintro e w3 ⟨rfl, m3⟩
      go_wp2_with fail
      go_ret
      exact ⟨ret_int HE.out.symm, HM2.out.trans m3⟩

set_option maxRecDepth 100000 in
set_option maxHeartbeats 1500000 in
theorem check_v (d : Nat) (x : VA) (v : VT) (G : Nat → Prop) (w : World) (ht : Tree w G d x v) (hW : Fit d v) (hU : Utf8T w) :
    Calls Tryz.prog 28 #[x.val] w fun e w' => e = .returned (.int .i64 (vCheck d v)) ∧ New w w' := by
  have HC := Lib.hid (Value.fault_big (d := d) (v := v) rfl rfl)
  have hl := fun W (h : New w W) cb (hb : Blk W cb 95 #[.int .i64 0]) => large_v d x v G W cb 0 1 (ht.new h) hb (by omega) (by omega) (by omega) hW
  have HFA := Lib.hid (fun W (h : New w W) => fault_v d x v G W (ht.new h) hW (hU.new h))
  obtain ⟨kind, flag, num, words, la, ln, lc, ma, mn, mc⟩ := x
  clear ht hU hW
  generalize vCheck d v = C at *
  generalize vMany d v = M at *
  generalize vDeep d v = D at *
  generalize vFault d v = F at *
  have hx := Blk.new w 29 #[.int .i64 kind, .bool flag, .int .i64 num, .string words, .slice la ln lc, .slice ma mn mc]
  have hm1 : New w (w.alloc (.cells #[.int .i64 kind, .bool flag, .int .i64 num, .string words, .slice la ln lc, .slice ma mn mc] 29)) := (Mod.refl _ _).alloc _
  go_enter Tryz.func28, Tryz.ntmps28
  go_upto_region 1 with (fail)
  generalize w.alloc (.cells #[.int .i64 kind, .bool flag, .int .i64 num, .string words, .slice la ln lc, .slice ma mn mc] 29) = w1 at *
  have HCB : Hid (w.heap.size ≤ w1.heap.size) := Lib.hid hm1.size
  generalize hxb : w.heap.size = xb at *
  have hcb := Blk.new w1 95 #[.int .i64 0]
  have hm2 : New w1 (w1.alloc (.cells #[.int .i64 0] 95)) := (Mod.refl _ _).alloc _
  go_upto_region 2 with (fail)
  generalize w1.alloc (.cells #[.int .i64 0] 95) = w2 at *
  have hne : xb ≠ w1.heap.size := by have := hx.lt; omega
  generalize w1.heap.size = cb at *
  have hm := hm1.trans hm2
  have hl1 := hl w2 hm cb hcb
  have hxx := hx.mod hm2 (fun e => e)
  have HX := Lib.hid hxx
  have HNE := Lib.hid hne
  have HM := Lib.hid hm
  have HXB := Lib.hid hxb
  clear hx hm1 hm2 hcb hm hl hne hxb
  have e0 := hxx.cell 0
  have e1 := hxx.cell 1
  have e2 := hxx.cell 2
  have e3 := hxx.cell 3
  have e4 := hxx.cell 4
  have e5 := hxx.cell 5
  have el := hxx.lt
  simp only [List.getElem?_toArray, List.getElem?_cons_zero, List.getElem?_cons_succ] at e0 e1 e2 e3 e4 e5
  go_wp2_with fail
  refine hl1.mono ?_
  clear hl1
  rintro e w3 ⟨b, m', rfl, -, hm3, hno, hyes⟩
  have HM3 : Hid (New w w3) := Lib.hid (HM.out.step hm3 (fun i hi e => by have := HCB.out; have := HXB.out; omega))
  clear e0 e1 e2 e3 e4 e5 el hxx
  have hxx := HX.out.mod hm3 HNE.out
  have e0 := hxx.cell 0
  have e1 := hxx.cell 1
  have e2 := hxx.cell 2
  have e3 := hxx.cell 3
  have e4 := hxx.cell 4
  have e5 := hxx.cell 5
  have el := hxx.lt
  simp only [List.getElem?_toArray, List.getElem?_cons_zero, List.getElem?_cons_succ] at e0 e1 e2 e3 e4 e5
  clear hm3
  cases b with
  | true =>
    have HE : Hid (C = 2) := Lib.hid (by rw [HC.out, if_pos (by have := hyes rfl; omega)])
    clear hno hyes
    go_wp2_with fail
    go_ret
    exact ⟨ret_int HE.out.symm, HM3.out⟩
  | false =>
    have HE : Hid (C = F) := Lib.hid (by rw [HC.out, if_neg (by have := hno rfl; omega)])
    have hf1 := HFA.out w3 HM3.out
    clear hno hyes
    go_wp2_with fail
    refine hf1.mono ?_
    clear hf1
    rintro e w4 ⟨rfl, m4⟩
    go_wp2_with fail
    go_ret
    exact ⟨ret_int HE.out.symm, HM3.out.trans m4⟩


end Go.Proofs.YtahofcopedlenaaGreatDoor
