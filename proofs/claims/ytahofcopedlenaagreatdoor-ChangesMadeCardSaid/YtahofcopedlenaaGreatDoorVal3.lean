/- How large a value is: the program's counter. Conditions: the value stands in memory as a tree. -/
import Derived.Test.YtahofcopedlenaaGreatDoorVal2
namespace Go.Proofs.YtahofcopedlenaaGreatDoor
open Go.RowKit
set_option linter.unusedVariables false
set_option linter.unusedSimpArgs false

/-- what the counter says, from m on, at the depth dp -/
def RLarge (cb m : Nat) (dp : Int) (M D : Nat) (w : World) (e : Ending) (w' : World) : Prop :=
  ∃ (b : Bool) (m' : Nat), e = .returned (.bool b) ∧ Blk w' cb 95 #[.int .i64 m'] ∧ Only cb w w' ∧
    (b = false → m' = m + M ∧ m + M ≤ 5000 ∧ dp + D ≤ 51) ∧ (b = true → 5000 < m + M ∨ 51 < dp + D)
theorem RLarge.yes {cb m m' : Nat} {dp : Int} {M D : Nat} {w w' : World} (hb : Blk w' cb 95 #[.int .i64 m']) (hm : Only cb w w') (h : 5000 < m + M ∨ 51 < dp + D) : RLarge cb m dp M D w (.returned (.bool true)) w' :=
  ⟨true, m', rfl, hb, hm, fun e => (by cases e), fun _ => h⟩

set_option maxRecDepth 100000 in
set_option maxHeartbeats 4000000 in
theorem large_v (d : Nat) : ∀ (x : VA) (v : VT) (G : Nat → Prop) (w : World) (cb m : Nat) (dp : Int), Tree w G d x v → Blk w cb 95 #[.int .i64 m] → m ≤ 5000 → 0 ≤ dp → dp ≤ 51 → Fit d v →
    Calls Tryz.prog 49 #[.pointer (some ⟨cb, 0, none⟩), x.val, .int .i64 dp] w (RLarge cb m dp (vMany d v) (vDeep d v) w) := by
  induction d with
  | zero => intro x v G w cb m dp ht; exact ht.elim
  | succ d ih =>
    intro x v G w cb m dp ht hb hm h0 h1 hW
    have hM := Nat.le_trans (vMany_le (d + 1) v) hW.1
    have hwp := hW.parts
    have HWI := Lib.hid (fun k (h : k < v.list.length) => hW.item h)
    have HWMB := Lib.hid (fun k (h : k < v.mem.length) => (hW.member h).1)
    have hfl := ht.fields
    have HT := Lib.hid ht
    have HIH := Lib.hid ih
    have hM1 : 1 ≤ vMany (d + 1) v := by simp only [vMany]; omega
    have hD1 : 1 ≤ vDeep (d + 1) v := by simp only [vDeep]; omega
    have HMV : Hid (vMany (d + 1) v = 1 + ((v.list.map (vMany d)).sum + (v.mem.map fun p => vMany d p.2).sum)) := Lib.hid rfl
    have HDV : Hid (vDeep (d + 1) v = 1 + max (maxL (v.list.map (vDeep d))) (maxL (v.mem.map fun p => vDeep d p.2))) := Lib.hid rfl
    obtain ⟨kind, flag, num, words, la, ln, lc, ma, mn, mc⟩ := x
    obtain ⟨-, -, -, -, hln, hmn⟩ := hfl
    simp only at hln hmn
    have hlb : ln ≤ 200000 ∧ mn ≤ 200000 := by omega
    clear hwp hW
    obtain ⟨hlb1, hlb2⟩ := hlb
    have HLN := Lib.hid hln
    have HMN := Lib.hid hmn
    generalize vMany (d + 1) v = M at *
    generalize vDeep (d + 1) v = D at *
    have hbl := hb.lt
    have HTB := Lib.hid hb.tb
    have c0 := hb.cell 0
    have f0 := hb.frozen
    simp at c0
    clear ht ih hln hmn
    have hx := Blk.new w 29 #[.int .i64 kind, .bool flag, .int .i64 num, .string words, .slice la ln lc, .slice ma mn mc]
    have hbx := hb.mod ((Mod.refl (fun _ => False) w).alloc (.cells #[.int .i64 kind, .bool flag, .int .i64 num, .string words, .slice la ln lc, .slice ma mn mc] 29)) (fun e => e)
    have hm1 : New w (w.alloc (.cells #[.int .i64 kind, .bool flag, .int .i64 num, .string words, .slice la ln lc, .slice ma mn mc] 29)) := (Mod.refl _ _).alloc _
    have hne : w.heap.size ≠ cb := by omega
    go_enter Tryz.func49, Tryz.ntmps49
    go_upto_region 1 with (fail)
    generalize w.alloc (.cells #[.int .i64 kind, .bool flag, .int .i64 num, .string words, .slice la ln lc, .slice ma mn mc] 29) = w1 at *
    generalize hxb : w.heap.size = xb at *
    have b0 := hbx.cell 0
    have bf := hbx.frozen
    have bl := hbx.lt
    simp at b0
    clear c0 f0
    have hb2 := hbx.set 0 (.int .i64 (m + 1 : Int))
    have hx2 : Blk (w1.setCell ⟨cb, 0, none⟩ (.int .i64 (m + 1 : Int))) xb 29 #[.int .i64 kind, .bool flag, .int .i64 num, .string words, .slice la ln lc, .slice ma mn mc] := hx.mod (Only.set (Mod.refl _ _) 0 _) hne
    have hm2 : Only cb w (w1.setCell ⟨cb, 0, none⟩ (.int .i64 (m + 1 : Int))) := hm1.only.set 0 _
    simp at hb2
    clear hb hbx hx hm1
    have e4 := hx2.cell 4
    have e5 := hx2.cell 5
    have el := hx2.lt
    simp at e4 e5
    have HB2 := Lib.hid hb2
    have HM2 := Lib.hid hm2
    by_cases hbig : 5000 < m + 1
    · have hg1 : (5000 : Int) < (m : Int) + 1 := by omega
      go_wp2_with fail
      go_ret
      exact RLarge.yes (m' := m + 1) (by simpa using HB2.out) HM2.out (.inl (by omega))
    · have hg1 : ¬ (5000 : Int) < (m : Int) + 1 := by omega
      by_cases hdeep : 50 < dp
      · go_wp2_with fail
        go_ret
        exact RLarge.yes (m' := m + 1) (by simpa using HB2.out) HM2.out (.inr (by omega))
      · go_wp2_with fail
        generalize w1.setCell ⟨cb, 0, none⟩ (.int .i64 (m + 1 : Int)) = w2 at *
        have HX2 := Lib.hid hx2
        have HNE := Lib.hid hne
        have HXB := Lib.hid hxb
        have hdp : dp ≤ 50 := by omega
        clear hx2 hm2 hb2 e4 e5 el b0 bf bl hne hxb hg1 hdeep hbl
        go_loopw [30] (fun i wr => ∃ k : Nat, k ≤ ln ∧ i = .int .i64 k ∧ Hid (Blk wr cb 95 #[.int .i64 ((m + 1 + ((v.list.take k).map (vMany d)).sum : Nat) : Int)]) ∧ m + 1 + ((v.list.take k).map (vMany d)).sum ≤ 5000 ∧ dp + 1 + (maxL ((v.list.take k).map (vDeep d)) : Nat) ≤ 51 ∧
          Hid (Only cb w wr) ∧ Hid (Blk wr xb 29 #[.int .i64 kind, .bool flag, .int .i64 num, .string words, .slice la ln lc, .slice ma mn mc])) (fun i _ => ln - (intOf i).toNat)
        case atStart => exact ⟨0, Nat.zero_le _, rfl, by simpa using HB2, by simp; omega, by simp [maxL]; omega, HM2, HX2⟩
        case round =>
          rename World => wr
          obtain ⟨k, hk, rfl, HB, hs, hd, HM, HX⟩ := hrel
          by_cases hlt : k < ln
          · have hkl : k < v.list.length := by have := HLN.out; omega
            have hT := HT.out.only HM.out HTB.out (by decide) (by decide)
            obtain ⟨g, o, y, hA, hgl, htb, -, hc, hty⟩ := hT.item hkl
            simp only at hA
            subst hA
            obtain ⟨yk, yf, yn, yw, yla, yln, ylc, yma, ymn, ymc⟩ := y
            have c0 := hc 0 (by omega)
            have c1 := hc 1 (by omega)
            have c2 := hc 2 (by omega)
            have c3 := hc 3 (by omega)
            have c4 := hc 4 (by omega)
            have c5 := hc 5 (by omega)
            simp only [VA.enc, Nat.add_zero] at c0 c1 c2 c3 c4 c5
            have hsum := sum_map_one (vMany d) hkl
            have hmax := max_map_get (vDeep d) hkl
            have hmv := HMV.out
            have hdv := HDV.out
            have HS := Lib.hid (sum_map_take (vMany d) hkl)
            have HD := Lib.hid (max_map_take (vDeep d) hkl)
            have hI := HIH.out ⟨yk, yf, yn, yw, yla, yln, ylc, yma, ymn, ymc⟩ v.list[k] G (wr.alloc (.cells #[.int .i64 yk, .bool yf, .int .i64 yn, .string yw, .slice yla yln ylc, .slice yma ymn ymc] 29)) cb _ (dp + 1) (hty.new ((Mod.refl _ _).alloc _)) (HB.out.mod ((Mod.refl (fun _ => False) _).alloc _) (fun e => e)) hs (by omega) (by omega) (HWI.out k hkl)
            have hA1 : 1 + ((v.list.take k).map (vMany d)).sum + vMany d v.list[k] ≤ M := by omega
            have hA2 : 1 + vDeep d v.list[k] ≤ D := by omega
            have hb1 : (0 : Int) ≤ k := by omega
            have hb2 : (k : Int) < ln := by omega
            clear hT hc hty hsum hmax hmv hdv htb
            generalize ((v.list.take k).map (vMany d)).sum = s1 at *
            generalize maxL ((v.list.take k).map (vDeep d)) = d1 at *
            generalize vMany d v.list[k] = a1 at *
            generalize vDeep d v.list[k] = a2 at *
            have HMA := Lib.hid (HM.out.alloc (.cells #[.int .i64 yk, .bool yf, .int .i64 yn, .string yw, .slice yla yln ylc, .slice yma ymn ymc] 29))
            have HXA := Lib.hid (HX.out.mod ((Mod.refl (fun _ => False) wr).alloc (.cells #[.int .i64 yk, .bool yf, .int .i64 yn, .string yw, .slice yla yln ylc, .slice yma ymn ymc] 29)) (fun e => e))
            go_wp2_with fail
            refine hI.mono ?_
            clear hI
            rintro e w5 ⟨b, m', rfl, hb5, hm5, hno, hyes⟩
            have HM5 := Lib.hid (HMA.out.trans hm5)
            have HX5 := Lib.hid (HXA.out.mod hm5 HNE.out)
            have HB5 := Lib.hid hb5
            clear hb5 hm5
            cases b with
            | true =>
              have hy := hyes rfl
              clear hyes hno
              go_wp2_with fail
              go_ret
              exact RLarge.yes HB5.out HM5.out (by omega)
            | false =>
              obtain ⟨rfl, h5, h6⟩ := hno rfl
              clear hyes hno
              go_wp2_with fail
              exact ⟨⟨k + 1, by omega, by go_num, by rw [HS.out]; exact Lib.hid (by rw [← Nat.add_assoc]; exact HB5.out), by rw [HS.out]; omega, by rw [HD.out]; omega, HM5, HX5⟩, by simp [intOf]; omega⟩
          · obtain rfl : k = ln := by omega
            have hvl := HLN.out
            rw [List.take_of_length_le (by omega)] at HB hs hd
            have e5 := HX.out.cell 5
            have el := HX.out.lt
            simp at e5
            clear hlt hk HX
            generalize (v.list.map (vMany d)).sum = s1 at *
            generalize maxL (v.list.map (vDeep d)) = d1 at *
            have HWM := HM
            go_wp2_with fail
            go_loopw [43] (fun i wq => ∃ k : Nat, k ≤ mn ∧ i = .int .i64 k ∧ Hid (Blk wq cb 95 #[.int .i64 ((m + 1 + s1 + ((v.mem.take k).map fun p => vMany d p.2).sum : Nat) : Int)]) ∧ m + 1 + s1 + ((v.mem.take k).map fun p => vMany d p.2).sum ≤ 5000 ∧ dp + 1 + (maxL ((v.mem.take k).map fun p => vDeep d p.2) : Nat) ≤ 51 ∧
              Hid (Only cb w wq)) (fun i _ => mn - (intOf i).toNat)
            case atStart => exact ⟨0, Nat.zero_le _, rfl, by simpa using HB, by simp; omega, by simp [maxL]; omega, HWM⟩
            case round =>
              rename World => wq
              obtain ⟨k, hk, rfl, HB, hs2, hd2, HM⟩ := hrel
              by_cases hlt : k < mn
              · have hkl : k < v.mem.length := by have := HMN.out; omega
                have hT := HT.out.only HM.out HTB.out (by decide) (by decide)
                obtain ⟨g, o, y, hA, hgl, htb, -, hcn, hc, hty⟩ := hT.member hkl
                simp only at hA
                subst hA
                obtain ⟨yk, yf, yn, yw, yla, yln, ylc, yma, ymn, ymc⟩ := y
                have c0 := hc 0 (by omega)
                have c1 := hc 1 (by omega)
                have c2 := hc 2 (by omega)
                have c3 := hc 3 (by omega)
                have c4 := hc 4 (by omega)
                have c5 := hc 5 (by omega)
                simp only [VA.enc, Nat.zero_add] at c0 c1 c2 c3 c4 c5
                have hsum := sum_map_one (fun p : ByteArray × VT => vMany d p.2) hkl
                have hmax := max_map_get (fun p : ByteArray × VT => vDeep d p.2) hkl
                have hmv := HMV.out
                have hdv := HDV.out
                have HS := Lib.hid (sum_map_take (fun p : ByteArray × VT => vMany d p.2) hkl)
                have HD := Lib.hid (max_map_take (fun p : ByteArray × VT => vDeep d p.2) hkl)
                try simp only at hsum
                try simp only at hmax
                generalize hnm : v.mem[k].1 = nm at *
                have hI := HIH.out ⟨yk, yf, yn, yw, yla, yln, ylc, yma, ymn, ymc⟩ v.mem[k].2 G (wq.alloc (.cells #[.string nm, .int .i64 yk, .bool yf, .int .i64 yn, .string yw, .slice yla yln ylc, .slice yma ymn ymc] 49)) cb _ (dp + 1) (hty.new ((Mod.refl _ _).alloc _)) (HB.out.mod ((Mod.refl (fun _ => False) _).alloc _) (fun e => e)) hs2 (by omega) (by omega) (HWMB.out k hkl)
                have hA1 : 1 + s1 + ((v.mem.take k).map fun p => vMany d p.2).sum + vMany d v.mem[k].2 ≤ M := by omega
                have hA2 : 1 + vDeep d v.mem[k].2 ≤ D := by omega
                have hb1 : (0 : Int) ≤ k := by omega
                have hb2 : (k : Int) < mn := by omega
                clear hT hc hty hsum hmax hmv hdv htb hnm
                generalize ((v.mem.take k).map fun p => vMany d p.2).sum = s2 at *
                generalize maxL ((v.mem.take k).map fun p => vDeep d p.2) = d2 at *
                generalize vMany d v.mem[k].2 = a1 at *
                generalize vDeep d v.mem[k].2 = a2 at *
                have HMA := Lib.hid (HM.out.alloc (.cells #[.string nm, .int .i64 yk, .bool yf, .int .i64 yn, .string yw, .slice yla yln ylc, .slice yma ymn ymc] 49))
                go_wp2_with fail
                refine hI.mono ?_
                clear hI
                rintro e w5 ⟨b, m', rfl, hb5, hm5, hno, hyes⟩
                have HM5 := Lib.hid (HMA.out.trans hm5)
                have HB5 := Lib.hid hb5
                clear hb5 hm5
                cases b with
                | true =>
                  have hy := hyes rfl
                  clear hyes hno
                  go_wp2_with fail
                  go_ret
                  exact RLarge.yes HB5.out HM5.out (by omega)
                | false =>
                  obtain ⟨rfl, h5, h6⟩ := hno rfl
                  clear hyes hno
                  go_wp2_with fail
                  exact ⟨⟨k + 1, by omega, by go_num, by rw [HS.out]; exact Lib.hid (by rw [← Nat.add_assoc]; exact HB5.out), by rw [HS.out]; omega, by rw [HD.out]; omega, HM5⟩, by simp [intOf]; omega⟩
              · obtain rfl : k = mn := by omega
                have hvl := HMN.out
                rw [List.take_of_length_le (by omega)] at HB hs2 hd2
                have hmv := HMV.out
                have hdv := HDV.out
                clear hlt hk
                generalize (v.mem.map fun p => vMany d p.2).sum = s2 at *
                generalize maxL (v.mem.map fun p => vDeep d p.2) = d2 at *
                go_wp2_with fail
                go_ret
                exact ⟨false, _, rfl, HB.out, HM.out, fun _ => ⟨by omega, by omega, by omega⟩, fun e => (by cases e)⟩

end Go.Proofs.YtahofcopedlenaaGreatDoor
