/- Several texts in one. (1) How large a value is: the program's counter. Conditions: the value stands in memory as a tree. (2) What is wrong with a value: the program's check, and value.Check. Conditions: the value stands in memory as a tree; the library's tables lie as they should. (3) What is wrong with a value: the reference's names. Conditions: names of modest size. -/
import Derived.Test.YtjmnkdkdjnmejaaGreatDoorVal2Grp

namespace Go.Proofs.YtjmnkdkdjnmejaaGreatDoor
open Go.RowKit
set_option linter.unusedVariables false
set_option linter.unusedSimpArgs false

/-- what the counter says, from m on, at the depth dp -/
def RLarge (cb m : Nat) (dp : Int) (M D : Nat) (w : World) (e : Ending) (w' : World) : Prop :=
  ∃ (b : Bool) (m' : Nat), e = .returned (.bool b) ∧ Blk w' cb 91 #[.int .i64 m'] ∧ Only cb w w' ∧
    (b = false → m' = m + M ∧ m + M ≤ 5000 ∧ dp + D ≤ 51) ∧ (b = true → 5000 < m + M ∨ 51 < dp + D)
theorem RLarge.yes {cb m m' : Nat} {dp : Int} {M D : Nat} {w w' : World} (hb : Blk w' cb 91 #[.int .i64 m']) (hm : Only cb w w') (h : 5000 < m + M ∨ 51 < dp + D) : RLarge cb m dp M D w (.returned (.bool true)) w' :=
  ⟨true, m', rfl, hb, hm, fun e => (by cases e), fun _ => h⟩

set_option maxRecDepth 100000 in
set_option maxHeartbeats 4000000 in
theorem large_v (d : Nat) : ∀ (x : VA) (v : VT) (G : Nat → Prop) (w : World) (cb m : Nat) (dp : Int), Tree w G d x v → Blk w cb 91 #[.int .i64 m] → m ≤ 5000 → 0 ≤ dp → dp ≤ 51 → Fit d v →
    Calls Tryz.prog 39 #[.pointer (some ⟨cb, 0, none⟩), x.val, .int .i64 dp] w (RLarge cb m dp (vMany d v) (vDeep d v) w) := by
  induction d with
  | zero => intro x v G w cb m dp ht; exact ht.elim
  | succ d ih =>
    intro x v G w cb m dp ht hb hm h0 h1 hW
    have hM := Nat.le_trans (vMany_le (d + 1) v) hW.1
    have hwp := hW.parts
    have HWI := hId (fun k (h : k < v.list.length) => hW.item h)
    have HWMB := hId (fun k (h : k < v.mem.length) => (hW.member h).1)
    have hfl := ht.fields
    have HT := hId ht
    have HIH := hId ih
    have hM1 : 1 ≤ vMany (d + 1) v := by simp only [vMany]; omega
    have hD1 : 1 ≤ vDeep (d + 1) v := by simp only [vDeep]; omega
    have HMV : Hid (vMany (d + 1) v = 1 + ((v.list.map (vMany d)).sum + (v.mem.map fun p => vMany d p.2).sum)) := hId rfl
    have HDV : Hid (vDeep (d + 1) v = 1 + max (maxL (v.list.map (vDeep d))) (maxL (v.mem.map fun p => vDeep d p.2))) := hId rfl
    obtain ⟨kind, flag, num, words, la, ln, lc, ma, mn, mc⟩ := x
    obtain ⟨-, -, -, -, hln, hmn⟩ := hfl
    simp only at hln hmn
    have hlb : ln ≤ 200000 ∧ mn ≤ 200000 := by omega
    clear hwp hW
    obtain ⟨hlb1, hlb2⟩ := hlb
    have HLN := hId hln
    have HMN := hId hmn
    generalize vMany (d + 1) v = M at *
    generalize vDeep (d + 1) v = D at *
    have hbl := hb.lt
    have HTB := hId hb.tb
    have c0 := hb.cell 0
    have f0 := hb.frozen
    simp at c0
    clear ht ih hln hmn
    have hx := Blk.new w 30 #[.int .i64 kind, .bool flag, .int .i64 num, .string words, .slice la ln lc, .slice ma mn mc]
    have hbx := hb.mod ((Mod.refl (fun _ => False) w).alloc (.cells #[.int .i64 kind, .bool flag, .int .i64 num, .string words, .slice la ln lc, .slice ma mn mc] 30)) (fun e => e)
    have hm1 : New w (w.alloc (.cells #[.int .i64 kind, .bool flag, .int .i64 num, .string words, .slice la ln lc, .slice ma mn mc] 30)) := (Mod.refl _ _).alloc _
    have hne : w.heap.size ≠ cb := by omega
    go_enter Tryz.func39, Tryz.ntmps39
    go_upto_region 1 with (fail)
    generalize w.alloc (.cells #[.int .i64 kind, .bool flag, .int .i64 num, .string words, .slice la ln lc, .slice ma mn mc] 30) = w1 at *
    generalize hxb : w.heap.size = xb at *
    have b0 := hbx.cell 0
    have bf := hbx.frozen
    have bl := hbx.lt
    simp at b0
    clear c0 f0
    have hb2 := hbx.set 0 (.int .i64 (m + 1 : Int))
    have hx2 : Blk (w1.setCell ⟨cb, 0, none⟩ (.int .i64 (m + 1 : Int))) xb 30 #[.int .i64 kind, .bool flag, .int .i64 num, .string words, .slice la ln lc, .slice ma mn mc] := hx.mod (Only.set (Mod.refl _ _) 0 _) hne
    have hm2 : Only cb w (w1.setCell ⟨cb, 0, none⟩ (.int .i64 (m + 1 : Int))) := hm1.only.set 0 _
    simp at hb2
    clear hb hbx hx hm1
    have e4 := hx2.cell 4
    have e5 := hx2.cell 5
    have el := hx2.lt
    simp at e4 e5
    have HB2 := hId hb2
    have HM2 := hId hm2
    by_cases hbig : 5000 < m + 1
    · have hg1 : (5000 : Int) < (m : Int) + 1 := by omega
      go_wp2_with fail
      go_ret
      exact RLarge.yes (m' := m + 1) (by simpa using HB2.out) HM2.out (.inl (by omega))
    · have hg1 : ¬ (5000 : Int) < (m : Int) + 1 := by omega
      by_cases hdeep : 50 < dp
      · go_wp2_with fail
        go_ret
        exact RLarge.yes (m' := m + 1) (by simpa using HB2.out) HM2.out (.inr (by omega))
      · go_wp2_with fail
        generalize w1.setCell ⟨cb, 0, none⟩ (.int .i64 (m + 1 : Int)) = w2 at *
        have HX2 := hId hx2
        have HNE := hId hne
        have HXB := hId hxb
        have hdp : dp ≤ 50 := by omega
        clear hx2 hm2 hb2 e4 e5 el b0 bf bl hne hxb hg1 hdeep hbl
        go_loopw [30] (fun i wr => ∃ k : Nat, k ≤ ln ∧ i = .int .i64 k ∧ Hid (Blk wr cb 91 #[.int .i64 ((m + 1 + ((v.list.take k).map (vMany d)).sum : Nat) : Int)]) ∧ m + 1 + ((v.list.take k).map (vMany d)).sum ≤ 5000 ∧ dp + 1 + (maxL ((v.list.take k).map (vDeep d)) : Nat) ≤ 51 ∧
          Hid (Only cb w wr) ∧ Hid (Blk wr xb 30 #[.int .i64 kind, .bool flag, .int .i64 num, .string words, .slice la ln lc, .slice ma mn mc])) (fun i _ => ln - (intOf i).toNat)
        case atStart => exact ⟨0, Nat.zero_le _, rfl, by simpa using HB2, by simp; omega, by simp [maxL]; omega, HM2, HX2⟩
        case round =>
          rename World => wr
          obtain ⟨k, hk, rfl, HB, hs, hd, HM, HX⟩ := hrel
          by_cases hlt : k < ln
          · have hkl : k < v.list.length := by have := HLN.out; omega
            have hT := HT.out.only HM.out HTB.out (by decide) (by decide)
            obtain ⟨g, o, y, hA, hgl, htb, -, hc, hty⟩ := hT.item hkl
            simp only at hA
            subst hA
            obtain ⟨yk, yf, yn, yw, yla, yln, ylc, yma, ymn, ymc⟩ := y
            have c0 := hc 0 (by omega)
            have c1 := hc 1 (by omega)
            have c2 := hc 2 (by omega)
            have c3 := hc 3 (by omega)
            have c4 := hc 4 (by omega)
            have c5 := hc 5 (by omega)
            simp only [VA.enc, Nat.add_zero] at c0 c1 c2 c3 c4 c5
            have hsum := sum_map_one (vMany d) hkl
            have hmax := max_map_get (vDeep d) hkl
            have hmv := HMV.out
            have hdv := HDV.out
            have HS := hId (sum_map_take (vMany d) hkl)
            have HD := hId (max_map_take (vDeep d) hkl)
            have hI := HIH.out ⟨yk, yf, yn, yw, yla, yln, ylc, yma, ymn, ymc⟩ v.list[k] G (wr.alloc (.cells #[.int .i64 yk, .bool yf, .int .i64 yn, .string yw, .slice yla yln ylc, .slice yma ymn ymc] 30)) cb _ (dp + 1) (hty.new ((Mod.refl _ _).alloc _)) (HB.out.mod ((Mod.refl (fun _ => False) _).alloc _) (fun e => e)) hs (by omega) (by omega) (HWI.out k hkl)
            have hA1 : 1 + ((v.list.take k).map (vMany d)).sum + vMany d v.list[k] ≤ M := by omega
            have hA2 : 1 + vDeep d v.list[k] ≤ D := by omega
            have hb1 : (0 : Int) ≤ k := by omega
            have hb2 : (k : Int) < ln := by omega
            clear hT hc hty hsum hmax hmv hdv htb
            generalize ((v.list.take k).map (vMany d)).sum = s1 at *
            generalize maxL ((v.list.take k).map (vDeep d)) = d1 at *
            generalize vMany d v.list[k] = a1 at *
            generalize vDeep d v.list[k] = a2 at *
            have HMA := hId (HM.out.alloc (.cells #[.int .i64 yk, .bool yf, .int .i64 yn, .string yw, .slice yla yln ylc, .slice yma ymn ymc] 30))
            have HXA := hId (HX.out.mod ((Mod.refl (fun _ => False) wr).alloc (.cells #[.int .i64 yk, .bool yf, .int .i64 yn, .string yw, .slice yla yln ylc, .slice yma ymn ymc] 30)) (fun e => e))
            go_wp2_with fail
            refine hI.mono ?_
            clear hI
            rintro e w5 ⟨b, m', rfl, hb5, hm5, hno, hyes⟩
            have HM5 := hId (HMA.out.trans hm5)
            have HX5 := hId (HXA.out.mod hm5 HNE.out)
            have HB5 := hId hb5
            clear hb5 hm5
            cases b with
            | true =>
              have hy := hyes rfl
              clear hyes hno
              go_wp2_with fail
              go_ret
              exact RLarge.yes HB5.out HM5.out (by omega)
            | false =>
              obtain ⟨rfl, h5, h6⟩ := hno rfl
              clear hyes hno
              go_wp2_with fail
              exact ⟨⟨k + 1, by omega, by go_num, by rw [HS.out]; exact hId (by rw [← Nat.add_assoc]; exact HB5.out), by rw [HS.out]; omega, by rw [HD.out]; omega, HM5, HX5⟩, by simp [intOf]; omega⟩
          · obtain rfl : k = ln := by omega
            have hvl := HLN.out
            rw [List.take_of_length_le (by omega)] at HB hs hd
            have e5 := HX.out.cell 5
            have el := HX.out.lt
            simp at e5
            clear hlt hk HX
            generalize (v.list.map (vMany d)).sum = s1 at *
            generalize maxL (v.list.map (vDeep d)) = d1 at *
            have HWM := HM
            go_wp2_with fail
            go_loopw [43] (fun i wq => ∃ k : Nat, k ≤ mn ∧ i = .int .i64 k ∧ Hid (Blk wq cb 91 #[.int .i64 ((m + 1 + s1 + ((v.mem.take k).map fun p => vMany d p.2).sum : Nat) : Int)]) ∧ m + 1 + s1 + ((v.mem.take k).map fun p => vMany d p.2).sum ≤ 5000 ∧ dp + 1 + (maxL ((v.mem.take k).map fun p => vDeep d p.2) : Nat) ≤ 51 ∧
              Hid (Only cb w wq)) (fun i _ => mn - (intOf i).toNat)
            case atStart => exact ⟨0, Nat.zero_le _, rfl, by simpa using HB, by simp; omega, by simp [maxL]; omega, HWM⟩
            case round =>
              rename World => wq
              obtain ⟨k, hk, rfl, HB, hs2, hd2, HM⟩ := hrel
              by_cases hlt : k < mn
              · have hkl : k < v.mem.length := by have := HMN.out; omega
                have hT := HT.out.only HM.out HTB.out (by decide) (by decide)
                obtain ⟨g, o, y, hA, hgl, htb, -, hcn, hc, hty⟩ := hT.member hkl
                simp only at hA
                subst hA
                obtain ⟨yk, yf, yn, yw, yla, yln, ylc, yma, ymn, ymc⟩ := y
                have c0 := hc 0 (by omega)
                have c1 := hc 1 (by omega)
                have c2 := hc 2 (by omega)
                have c3 := hc 3 (by omega)
                have c4 := hc 4 (by omega)
                have c5 := hc 5 (by omega)
                simp only [VA.enc, Nat.zero_add] at c0 c1 c2 c3 c4 c5
                have hsum := sum_map_one (fun p : ByteArray × VT => vMany d p.2) hkl
                have hmax := max_map_get (fun p : ByteArray × VT => vDeep d p.2) hkl
                have hmv := HMV.out
                have hdv := HDV.out
                have HS := hId (sum_map_take (fun p : ByteArray × VT => vMany d p.2) hkl)
                have HD := hId (max_map_take (fun p : ByteArray × VT => vDeep d p.2) hkl)
                try simp only at hsum
                try simp only at hmax
                generalize hnm : v.mem[k].1 = nm at *
                have hI := HIH.out ⟨yk, yf, yn, yw, yla, yln, ylc, yma, ymn, ymc⟩ v.mem[k].2 G (wq.alloc (.cells #[.string nm, .int .i64 yk, .bool yf, .int .i64 yn, .string yw, .slice yla yln ylc, .slice yma ymn ymc] 60)) cb _ (dp + 1) (hty.new ((Mod.refl _ _).alloc _)) (HB.out.mod ((Mod.refl (fun _ => False) _).alloc _) (fun e => e)) hs2 (by omega) (by omega) (HWMB.out k hkl)
                have hA1 : 1 + s1 + ((v.mem.take k).map fun p => vMany d p.2).sum + vMany d v.mem[k].2 ≤ M := by omega
                have hA2 : 1 + vDeep d v.mem[k].2 ≤ D := by omega
                have hb1 : (0 : Int) ≤ k := by omega
                have hb2 : (k : Int) < mn := by omega
                clear hT hc hty hsum hmax hmv hdv htb hnm
                generalize ((v.mem.take k).map fun p => vMany d p.2).sum = s2 at *
                generalize maxL ((v.mem.take k).map fun p => vDeep d p.2) = d2 at *
                generalize vMany d v.mem[k].2 = a1 at *
                generalize vDeep d v.mem[k].2 = a2 at *
                have HMA := hId (HM.out.alloc (.cells #[.string nm, .int .i64 yk, .bool yf, .int .i64 yn, .string yw, .slice yla yln ylc, .slice yma ymn ymc] 60))
                go_wp2_with fail
                refine hI.mono ?_
                clear hI
                rintro e w5 ⟨b, m', rfl, hb5, hm5, hno, hyes⟩
                have HM5 := hId (HMA.out.trans hm5)
                have HB5 := hId hb5
                clear hb5 hm5
                cases b with
                | true =>
                  have hy := hyes rfl
                  clear hyes hno
                  go_wp2_with fail
                  go_ret
                  exact RLarge.yes HB5.out HM5.out (by omega)
                | false =>
                  obtain ⟨rfl, h5, h6⟩ := hno rfl
                  clear hyes hno
                  go_wp2_with fail
                  exact ⟨⟨k + 1, by omega, by go_num, by rw [HS.out]; exact hId (by rw [← Nat.add_assoc]; exact HB5.out), by rw [HS.out]; omega, by rw [HD.out]; omega, HM5⟩, by simp [intOf]; omega⟩
              · obtain rfl : k = mn := by omega
                have hvl := HMN.out
                rw [List.take_of_length_le (by omega)] at HB hs2 hd2
                have hmv := HMV.out
                have hdv := HDV.out
                clear hlt hk
                generalize (v.mem.map fun p => vMany d p.2).sum = s2 at *
                generalize maxL (v.mem.map fun p => vDeep d p.2) = d2 at *
                go_wp2_with fail
                go_ret
                exact ⟨false, _, rfl, HB.out, HM.out, fun _ => ⟨by omega, by omega, by omega⟩, fun e => (by cases e)⟩


/-- the head's fault, over the cells -/
def headX (x : VA) : Int :=
  if x.kind < 0 ∨ 5 < x.kind then 4 else if idleX x = false then 3 else if x.num < -1000000000000000 ∨ 1000000000000000 < x.num then 1 else
  if 5000 < x.words.size then 2 else if validW x.words = false then 3 else 0
theorem Tree.head {w : World} {G : Nat → Prop} {d : Nat} {x : VA} {v : VT} (h : Tree w G d x v) : headF v = headX x := by
  obtain ⟨h1, h2, h3, h4, h5, h6⟩ := h.fields
  unfold headF headX
  rw [h1, h3, h4, h.idle]
theorem names_getD {v : VT} {k : Nat} (h : k < v.mem.length) : (v.mem.map (·.1)).getD k ByteArray.empty = v.mem[k].1 := by
  simp [List.getD_eq_getElem?_getD, h]
theorem names_get {v : VT} {k : Nat} (h : k < v.mem.length) : (v.mem.map (·.1))[k]? = some v.mem[k].1 := by
  simp [h]

set_option maxRecDepth 100000 in
set_option maxHeartbeats 4000000 in
theorem fault_v (d : Nat) : ∀ (x : VA) (v : VT) (G : Nat → Prop) (w : World), Tree w G d x v → Fit d v → Utf8T w →
    Calls Tryz.prog 40 #[x.val] w fun e w' => e = .returned (.int .i64 (vFault d v)) ∧ New w w' := by
  induction d with
  | zero => intro x v G w ht; exact ht.elim
  | succ d ih =>
    intro x v G w ht hW hU
    have hwp := hW.parts
    have HWI := hId (fun k (h : k < v.list.length) => hW.item h)
    have HWMB := hId (fun k (h : k < v.mem.length) => hW.member h)
    have hfl := ht.fields
    have hhd := ht.head
    have HT := hId ht
    have HU := hId hU
    have HIH := hId ih
    have hF : vFault (d + 1) v = orF (orF (headF v) (namesF (v.mem.map (·.1)))) (orF (fz (v.list.map (vFault d))) (fz (v.mem.map fun p => vFault d p.2))) := rfl
    rw [hhd] at hF
    have hws : v.words.size ≤ 1000000 := by omega
    have hlb : v.list.length ≤ 200000 ∧ v.mem.length ≤ 200000 := by omega
    obtain ⟨hlb1, hlb2⟩ := hlb
    have hid1 := fun W => idle_v x W
    obtain ⟨kind, flag, num, words, la, ln, lc, ma, mn, mc⟩ := x
    obtain ⟨-, -, -, hwd, hln, hmn⟩ := hfl
    simp only at hln hmn hwd
    rw [hwd] at hws
    have HF := hId hF
    have HLN := hId hln
    have HMN := hId hmn
    have hvl := fun W (hW : Utf8T W) => valid_v words W hws hW
    have hXE : headX ⟨kind, flag, num, words, la, ln, lc, ma, mn, mc⟩ = if kind < 0 ∨ 5 < kind then 4 else if idleX ⟨kind, flag, num, words, la, ln, lc, ma, mn, mc⟩ = false then 3 else if num < -1000000000000000 ∨ 1000000000000000 < num then 1 else if 5000 < words.size then 2 else if validW words = false then 3 else 0 := rfl
    have HXE := hId hXE
    rw [hln] at hlb1
    rw [hmn] at hlb2
    clear hwp hW hF hhd ht hU ih hln hmn hwd hXE
    generalize vFault (d + 1) v = F at *
    generalize headX ⟨kind, flag, num, words, la, ln, lc, ma, mn, mc⟩ = H at *
    generalize idleX ⟨kind, flag, num, words, la, ln, lc, ma, mn, mc⟩ = I at *
    generalize validW words = V at *
    have hx := Blk.new w 30 #[.int .i64 kind, .bool flag, .int .i64 num, .string words, .slice la ln lc, .slice ma mn mc]
    have hm1 : New w (w.alloc (.cells #[.int .i64 kind, .bool flag, .int .i64 num, .string words, .slice la ln lc, .slice ma mn mc] 30)) := (Mod.refl _ _).alloc _
    go_enter Tryz.func40, Tryz.ntmps40
    go_upto_region 1 with (fail)
    generalize w.alloc (.cells #[.int .i64 kind, .bool flag, .int .i64 num, .string words, .slice la ln lc, .slice ma mn mc] 30) = w1 at *
    generalize w.heap.size = xb at *
    have HX := hId hx
    have HM1 := hId hm1
    have hxx := hx
    clear hx hm1
    have e0 := hxx.cell 0
    have e1 := hxx.cell 1
    have e2 := hxx.cell 2
    have e3 := hxx.cell 3
    have e4 := hxx.cell 4
    have e5 := hxx.cell 5
    have el := hxx.lt
    simp only [lqt, lqz, lqs] at e0 e1 e2 e3 e4 e5
    go_wp2_with fail
    refine (outside_v _ _ _ _).mono ?_
    rintro e w2 ⟨rfl, rfl⟩
    by_cases q1 : kind < 0 ∨ 5 < kind
    · rw [show (!(decide (0 ≤ kind) && decide (kind ≤ 5))) = true by simp; omega]
      have HE : Hid (F = 4) := hId (by rw [HF.out, HXE.out, if_pos q1]; simp [orF])
      go_wp2_with fail
      go_ret
      exact ⟨ret_int HE.out.symm, HM1.out⟩
    rw [show (!(decide (0 ≤ kind) && decide (kind ≤ 5))) = false by simp; omega]
    have HXE1 : Hid (H = if I = false then 3 else if num < -1000000000000000 ∨ 1000000000000000 < num then 1 else if 5000 < words.size then 2 else if V = false then 3 else 0) := hId (by rw [HXE.out, if_neg q1])
    clear q1 HXE
    go_wp2_with fail
    refine (hid1 _).mono ?_
    clear hid1
    rintro e w3 ⟨rfl, m3⟩
    have HX3 := hId (HX.out.mod m3 (fun e => e))
    have HM3 := hId (HM1.out.trans m3)
    clear e0 e1 e2 e3 e4 e5 el hxx
    have hxx := HX3.out
    have e0 := hxx.cell 0
    have e1 := hxx.cell 1
    have e2 := hxx.cell 2
    have e3 := hxx.cell 3
    have e4 := hxx.cell 4
    have e5 := hxx.cell 5
    have el := hxx.lt
    simp only [lqt, lqz, lqs] at e0 e1 e2 e3 e4 e5
    clear HX HM1 m3
    cases I with
    | false =>
      have HE : Hid (F = 3) := hId (by rw [HF.out, HXE1.out]; simp [orF])
      go_wp2_with fail
      go_ret
      exact ⟨ret_int HE.out.symm, HM3.out⟩
    | true =>
    have HXE2 : Hid (H = if num < -1000000000000000 ∨ 1000000000000000 < num then 1 else if 5000 < words.size then 2 else if V = false then 3 else 0) := hId (by rw [HXE1.out, if_neg (by simp)])
    clear HXE1
    go_wp2_with fail
    refine (outside_v _ _ _ _).mono ?_
    rintro e w2 ⟨rfl, rfl⟩
    by_cases q1 : num < -1000000000000000 ∨ 1000000000000000 < num
    · rw [show (!(decide (-1000000000000000 ≤ num) && decide (num ≤ 1000000000000000))) = true by simp; omega]
      have HE : Hid (F = 1) := hId (by rw [HF.out, HXE2.out, if_pos q1]; simp [orF])
      go_wp2_with fail
      go_ret
      exact ⟨ret_int HE.out.symm, HM3.out⟩
    rw [show (!(decide (-1000000000000000 ≤ num) && decide (num ≤ 1000000000000000))) = false by simp; omega]
    have HXE3 : Hid (H = if 5000 < words.size then 2 else if V = false then 3 else 0) := hId (by rw [HXE2.out, if_neg q1])
    clear q1 HXE2
    by_cases q1 : 5000 < words.size
    · have hg : (5000 : Int) < words.size := by omega
      have HE : Hid (F = 2) := hId (by rw [HF.out, HXE3.out, if_pos q1]; simp [orF])
      go_wp2_with fail
      go_ret
      exact ⟨ret_int HE.out.symm, HM3.out⟩
    have hg : ¬ (5000 : Int) < words.size := by omega
    have HXE4 : Hid (H = if V = false then 3 else 0) := hId (by rw [HXE3.out, if_neg q1])
    clear q1 HXE3
    go_wp2_with fail
    refine (hvl _ (HU.out.new HM3.out)).mono ?_
    clear hvl
    rintro e w4 ⟨rfl, m4⟩
    have HX4 := hId (HX3.out.mod m4 (fun e => e))
    have HM4 := hId (HM3.out.trans m4)
    clear e0 e1 e2 e3 e4 e5 el hxx
    have hxx := HX4.out
    have e0 := hxx.cell 0
    have e1 := hxx.cell 1
    have e2 := hxx.cell 2
    have e3 := hxx.cell 3
    have e4 := hxx.cell 4
    have e5 := hxx.cell 5
    have el := hxx.lt
    simp only [lqt, lqz, lqs] at e0 e1 e2 e3 e4 e5
    clear HX3 HM3 m4 hg hws
    cases V with
    | false =>
      have HE : Hid (F = 3) := hId (by rw [HF.out, HXE4.out]; simp [orF])
      go_wp2_with fail
      go_ret
      exact ⟨ret_int HE.out.symm, HM4.out⟩
    | true =>
    have HF2 : Hid (F = orF (namesF (v.mem.map (·.1))) (orF (fz (v.list.map (vFault d))) (fz (v.mem.map fun p => vFault d p.2)))) := hId (by rw [HF.out, HXE4.out]; simp [orF])
    clear HF HXE4
    go_wp2_with fail
    clear e0 e1 e2 e3 e4 e5 el hxx
    go_loopw [37] (fun i wr => ∃ k : Nat, k ≤ mn ∧ i = .int .i64 k ∧ Hid (fz ((List.range k).map (nameAt (v.mem.map (·.1)))) = 0) ∧ Hid (New w4 wr)) (fun i _ => mn - (intOf i).toNat)
    case atStart => exact ⟨0, Nat.zero_le _, rfl, hId rfl, hId (Mod.refl _ _)⟩
    case round =>
      rename World => wr
      obtain ⟨k, hk, rfl, H0, HM⟩ := hrel
      have hxx := HX4.out.mod HM.out (fun e => e)
      by_cases hlt : k < mn
      · have hkl : k < v.mem.length := by have := HMN.out; omega
        have hT := HT.out.new (HM4.out.trans HM.out)
        obtain ⟨g, o, y, hA, hgl, htb, -, hcn, hc, -⟩ := hT.member hkl
        simp only at hA
        subst hA
        have hprev : 0 < k → wr.cell? ⟨g, o + (k - 1) * 7, none⟩ = some (.string ((v.mem.map (·.1)).getD (k - 1) ByteArray.empty)) := fun h0 => by
          obtain ⟨g', o', y', hA', _, _, _, hcn', _, _⟩ := hT.member (i := k - 1) (by omega)
          simp only at hA'
          injection hA' with hA'
          injection hA' with h1 h2
          subst h1 h2
          rw [hcn', names_getD (by omega)]
        have HE := hId (nameAt_eq (names_get hkl) _ (fun _ => rfl))
        have hnb := (HWMB.out k hkl).2
        have HSTOP : Hid (∀ f, nameAt (v.mem.map (·.1)) k = f → f ≠ 0 → F = f) := hId (fun f h1 h2 => by
          rw [HF2.out, names_stop (by simpa using hkl) H0.out (by rw [h1]; exact h2), h1]
          simp [orF, h2])
        have HNEXT : Hid (nameAt (v.mem.map (·.1)) k = 0 → fz ((List.range (k + 1)).map (nameAt (v.mem.map (·.1)))) = 0) := hId (fun h => by rw [names_next H0.out, h])
        generalize (v.mem.map (·.1)).getD (k - 1) ByteArray.empty = p at *
        generalize hnm : v.mem[k].1 = nm at *
        have HPREV := hId hprev
        obtain ⟨yk, yf, yn, yw, yla, yln, ylc, yma, ymn, ymc⟩ := y
        have c0 := hc 0 (by omega)
        have c1 := hc 1 (by omega)
        have c2 := hc 2 (by omega)
        have c3 := hc 3 (by omega)
        have c4 := hc 4 (by omega)
        have c5 := hc 5 (by omega)
        simp only [VA.enc, Nat.add_zero, Nat.zero_add] at c0 c1 c2 c3 c4 c5
        have e0 := hxx.cell 0
        have e1 := hxx.cell 1
        have e2 := hxx.cell 2
        have e3 := hxx.cell 3
        have e4 := hxx.cell 4
        have e5 := hxx.cell 5
        have el := hxx.lt
        simp only [lqt, lqz, lqs] at e0 e1 e2 e3 e4 e5
        have hb1 : (0 : Int) ≤ k := by omega
        have hb2 : (k : Int) < mn := by omega
        have hmx := Blk.new wr 60 #[.string nm, .int .i64 yk, .bool yf, .int .i64 yn, .string yw, .slice yla yln ylc, .slice yma ymn ymc]
        have hma : New wr (wr.alloc (.cells #[.string nm, .int .i64 yk, .bool yf, .int .i64 yn, .string yw, .slice yla yln ylc, .slice yma ymn ymc] 60)) := (Mod.refl _ _).alloc _
        clear hT hc hprev hnm
        go_upto_region 14 with (fail)
        generalize wr.alloc (.cells #[.string nm, .int .i64 yk, .bool yf, .int .i64 yn, .string yw, .slice yla yln ylc, .slice yma ymn ymc] 60) = wm at *
        have HGL := hId hgl
        generalize hmb : wr.heap.size = mb at *
        have HMB := hId hmb
        clear hmb
        have hn := nameFault_v nm wm (by omega) (HU.out.new ((HM4.out.trans HM.out).trans hma))
        have n0 := hmx.cell 0
        have nl := hmx.lt
        simp only [lqt, lqz] at n0
        have HMX := hId hmx
        have HMA := hId hma
        go_wp2_with fail
        refine hn.mono ?_
        clear hn
        rintro e w5 ⟨rfl, m5⟩
        have HM5 := hId (HM.out.trans (HMA.out.trans m5))
        have hmx5 := HMX.out.mod m5 (fun e => e)
        have hcp : 0 < k → w5.cell? ⟨g, o + (k - 1) * 7, none⟩ = some (.string p) := fun h => ((HMA.out.trans m5).cell (p := ⟨g, o + (k - 1) * 7, none⟩) (by rw [HMB.out]; exact HGL.out) (fun e => e)).trans (HPREV.out h)
        have hg5 : g < w5.heap.size := Nat.lt_of_lt_of_le HGL.out (by rw [← HMB.out]; exact (HMA.out.trans m5).size)
        clear e0 e1 e2 e3 e4 e5 el hxx
        have hxx := HX4.out.mod HM5.out (fun e => e)
        clear n0 nl c0 c1 c2 c3 c4 c5 hcn hmx hma hgl htb m5 HMX HMA HPREV hnb
        have n0 := hmx5.cell 0
        have nl := hmx5.lt
        simp only [lqt, lqz] at n0
        have e0 := hxx.cell 0
        have e1 := hxx.cell 1
        have e2 := hxx.cell 2
        have e3 := hxx.cell 3
        have e4 := hxx.cell 4
        have e5 := hxx.cell 5
        have el := hxx.lt
        simp only [lqt, lqz, lqs] at e0 e1 e2 e3 e4 e5
        clear hmx5
        by_cases hn0 : nameF nm = 0
        · rw [hn0]
          have HE2 : Hid (nameAt (v.mem.map (·.1)) k = if 0 < k ∧ strLeV nm p = true then 7 else 0) := hId (by rw [HE.out, if_neg (by simp [hn0])])
          clear hn0 HE
          by_cases h0 : 0 < k
          · have hp2 := hcp h0
            have hb3 : (0 : Int) < k := by omega
            have hb4 : (0 : Int) ≤ (k : Int) - 1 := by omega
            have hb5 : (k : Int) - 1 < mn := by omega
            have H0K := hId h0
            clear hcp
            go_wp2_with fail
            go_quiet (fail)
            have HE3 : Hid (nameAt (v.mem.map (·.1)) k = if 0 < k ∧ (Op.bytesLess nm.toList p.toList || nm.toList == p.toList) = true then 7 else 0) := HE2
            generalize (Op.bytesLess nm.toList p.toList || nm.toList == p.toList) = B at *
            cases B with
            | true =>
              have HFF := hId (HSTOP.out 7 (by rw [HE3.out, if_pos ⟨H0K.out, rfl⟩]) (by decide))
              go_wp2_with fail
              go_ret
              exact ⟨ret_int HFF.out.symm, HM4.out.trans (HM5.out.drewN _)⟩
            | false =>
              have HG := hId (HNEXT.out (by rw [HE3.out, if_neg (by simp)]))
              go_wp2_with fail
              go_roundw
              case rel => exact ⟨k + 1, by omega, by go_num, HG, hId (HM5.out.drewN _)⟩
              case measure => simp [intOf]; omega
          · obtain rfl : k = 0 := by omega
            have hd : decide ((0 : Int) < ((0 : Nat) : Int)) = false := by simp
            have HG := hId (HNEXT.out (by rw [HE2.out]; simp))
            go_wp2_with fail
            go_quiet (fail)
            go_wp2_with fail
            go_roundw
            case rel => exact ⟨0 + 1, by omega, by go_num, HG, hId (HM5.out.drewN _)⟩
            case measure => simp [intOf]; omega
        · have hn1 : (nameF nm != 0) = true := by simpa using hn0
          have HFF := hId (HSTOP.out (nameF nm) (by rw [HE.out, if_pos hn0]) hn0)
          clear hn0 HE
          generalize nameF nm = nf at *
          go_wp2_with fail
          go_ret
          exact ⟨ret_int HFF.out.symm, HM4.out.trans HM5.out⟩
      · obtain rfl : k = mn := by omega
        have HF3 : Hid (F = orF (fz (v.list.map (vFault d))) (fz (v.mem.map fun p => vFault d p.2))) := hId (by
          have hz : namesF (v.mem.map (·.1)) = 0 := by
            unfold namesF
            rw [List.length_map, HMN.out]
            exact H0.out
          rw [HF2.out, hz]
          simp [orF])
        have e0 := hxx.cell 0
        have e1 := hxx.cell 1
        have e2 := hxx.cell 2
        have e3 := hxx.cell 3
        have e4 := hxx.cell 4
        have e5 := hxx.cell 5
        have el := hxx.lt
        simp only [lqt, lqz, lqs] at e0 e1 e2 e3 e4 e5
        clear H0 HF2 hlt hk
        have HMW := hId (HM4.out.trans HM.out)
        have HX5 := hId (HX4.out.mod HM.out (fun e => e))
        clear HM HM4 HX4
        go_wp2_with fail
        clear e0 e1 e2 e3 e4 e5 el hxx
        go_loopw [66] (fun i wq => ∃ j : Nat, j ≤ ln ∧ i = .int .i64 j ∧ Hid (fz ((v.list.take j).map (vFault d)) = 0) ∧ Hid (New wr wq)) (fun i _ => ln - (intOf i).toNat)
        case atStart => exact ⟨0, Nat.zero_le _, rfl, hId rfl, hId (Mod.refl _ _)⟩
        case round =>
          rename World => wq
          obtain ⟨j, hj, rfl, H0, HM⟩ := hrel
          have hxx := HX5.out.mod HM.out (fun e => e)
          by_cases hlt : j < ln
          · have hjl : j < v.list.length := by have := HLN.out; omega
            have hT := HT.out.new (HMW.out.trans HM.out)
            obtain ⟨g, o, y, hA, hgl, htb, -, hc, hty⟩ := hT.item hjl
            simp only at hA
            subst hA
            have HSTOP : Hid (vFault d v.list[j] ≠ 0 → F = vFault d v.list[j]) := hId (fun h => by
              rw [HF3.out, fz_map_stop (vFault d) hjl H0.out h]
              simp [orF, h])
            have HNEXT : Hid (vFault d v.list[j] = 0 → fz ((v.list.take (j + 1)).map (vFault d)) = 0) := hId (fun h => by rw [fz_map_take _ hjl, H0.out, h]; rfl)
            obtain ⟨yk, yf, yn, yw, yla, yln, ylc, yma, ymn, ymc⟩ := y
            have c0 := hc 0 (by omega)
            have c1 := hc 1 (by omega)
            have c2 := hc 2 (by omega)
            have c3 := hc 3 (by omega)
            have c4 := hc 4 (by omega)
            have c5 := hc 5 (by omega)
            simp only [VA.enc, Nat.add_zero, Nat.zero_add] at c0 c1 c2 c3 c4 c5
            have hb1 : (0 : Int) ≤ j := by omega
            have hb2 : (j : Int) < ln := by omega
            have hma : New wq (wq.alloc (.cells #[.int .i64 yk, .bool yf, .int .i64 yn, .string yw, .slice yla yln ylc, .slice yma ymn ymc] 30)) := (Mod.refl _ _).alloc _
            have hI := HIH.out ⟨yk, yf, yn, yw, yla, yln, ylc, yma, ymn, ymc⟩ v.list[j] G (wq.alloc (.cells #[.int .i64 yk, .bool yf, .int .i64 yn, .string yw, .slice yla yln ylc, .slice yma ymn ymc] 30)) (hty.new hma) (HWI.out j hjl) (HU.out.new ((HMW.out.trans HM.out).trans hma))
            have HMA := hId (HM.out.trans hma)
            clear hT hc hty hma hxx htb
            generalize vFault d v.list[j] = f at *
            go_wp2_with fail
            refine hI.mono ?_
            clear hI
            rintro e w5 ⟨rfl, m5⟩
            have HM5 := hId (HMA.out.trans m5)
            clear m5
            by_cases hf : f = 0
            · have HG := hId (HNEXT.out hf)
              have hf1 : (f != 0) = false := by simpa using hf
              clear hf
              go_wp2_with fail
              go_roundw
              case rel => exact ⟨j + 1, by omega, by go_num, HG, HM5⟩
              case measure => simp [intOf]; omega
            · have HFF := hId (HSTOP.out hf)
              have hf1 : (f != 0) = true := by simpa using hf
              clear hf
              go_wp2_with fail
              go_ret
              exact ⟨ret_int HFF.out.symm, HMW.out.trans HM5.out⟩
          · obtain rfl : j = ln := by omega
            have HF4 : Hid (F = fz (v.mem.map fun p => vFault d p.2)) := hId (by
              have hz := H0.out
              rw [List.take_of_length_le (by have := HLN.out; omega)] at hz
              rw [HF3.out, hz]
              simp [orF])
            have e0 := hxx.cell 0
            have e1 := hxx.cell 1
            have e2 := hxx.cell 2
            have e3 := hxx.cell 3
            have e4 := hxx.cell 4
            have e5 := hxx.cell 5
            have el := hxx.lt
            simp only [lqt, lqz, lqs] at e0 e1 e2 e3 e4 e5
            clear H0 HF3 hlt hj
            have HMV := hId (HMW.out.trans HM.out)
            clear HM HMW HX5
            go_wp2_with fail
            clear e0 e1 e2 e3 e4 e5 el hxx
            go_loopw [79] (fun i wz => ∃ i' : Nat, i' ≤ k ∧ i = .int .i64 i' ∧ Hid (fz ((v.mem.take i').map fun p => vFault d p.2) = 0) ∧ Hid (New wq wz)) (fun i _ => k - (intOf i).toNat)
            case atStart => exact ⟨0, Nat.zero_le _, rfl, hId rfl, hId (Mod.refl _ _)⟩
            case round =>
              rename World => wz
              obtain ⟨j, hj, rfl, H0, HM⟩ := hrel
              by_cases hlt : j < k
              · have hjl : j < v.mem.length := by have := HMN.out; omega
                have hT := HT.out.new (HMV.out.trans HM.out)
                obtain ⟨g, o, y, hA, hgl, htb, -, hcn, hc, hty⟩ := hT.member hjl
                simp only at hA
                subst hA
                have HSTOP : Hid (vFault d v.mem[j].2 ≠ 0 → F = vFault d v.mem[j].2) := hId (fun h => by
                  rw [HF4.out, fz_map_stop (fun p : ByteArray × VT => vFault d p.2) hjl H0.out h])
                have HNEXT : Hid (vFault d v.mem[j].2 = 0 → fz ((v.mem.take (j + 1)).map fun p => vFault d p.2) = 0) := hId (fun h => by rw [fz_map_take _ hjl, H0.out, h]; rfl)
                obtain ⟨yk, yf, yn, yw, yla, yln, ylc, yma, ymn, ymc⟩ := y
                have c0 := hc 0 (by omega)
                have c1 := hc 1 (by omega)
                have c2 := hc 2 (by omega)
                have c3 := hc 3 (by omega)
                have c4 := hc 4 (by omega)
                have c5 := hc 5 (by omega)
                simp only [VA.enc, Nat.add_zero, Nat.zero_add] at c0 c1 c2 c3 c4 c5
                have hb1 : (0 : Int) ≤ j := by omega
                have hb2 : (j : Int) < k := by omega
                have hwm := (HWMB.out j hjl).1
                generalize v.mem[j].1 = nm at *
                have hma : New wz (wz.alloc (.cells #[.string nm, .int .i64 yk, .bool yf, .int .i64 yn, .string yw, .slice yla yln ylc, .slice yma ymn ymc] 60)) := (Mod.refl _ _).alloc _
                have hI := HIH.out ⟨yk, yf, yn, yw, yla, yln, ylc, yma, ymn, ymc⟩ v.mem[j].2 G (wz.alloc (.cells #[.string nm, .int .i64 yk, .bool yf, .int .i64 yn, .string yw, .slice yla yln ylc, .slice yma ymn ymc] 60)) (hty.new hma) hwm (HU.out.new ((HMV.out.trans HM.out).trans hma))
                have HMA := hId (HM.out.trans hma)
                clear hT hc hty hma htb hwm
                generalize vFault d v.mem[j].2 = f at *
                go_wp2_with fail
                refine hI.mono ?_
                clear hI
                rintro e w5 ⟨rfl, m5⟩
                have HM5 := hId (HMA.out.trans m5)
                clear m5
                by_cases hf : f = 0
                · have HG := hId (HNEXT.out hf)
                  have hf1 : (f != 0) = false := by simpa using hf
                  clear hf
                  go_wp2_with fail
                  go_roundw
                  case rel => exact ⟨j + 1, by omega, by go_num, HG, HM5⟩
                  case measure => simp [intOf]; omega
                · have HFF := hId (HSTOP.out hf)
                  have hf1 : (f != 0) = true := by simpa using hf
                  clear hf
                  go_wp2_with fail
                  go_ret
                  exact ⟨ret_int HFF.out.symm, HMV.out.trans HM5.out⟩
              · obtain rfl : j = k := by omega
                have HFF : Hid (F = 0) := hId (by
                  have hz := H0.out
                  rw [List.take_of_length_le (by have := HMN.out; omega)] at hz
                  rw [HF4.out, hz])
                go_wp2_with fail
                go_ret
                exact ⟨ret_int HFF.out.symm, HMV.out.trans HM.out⟩


def strE (s : ByteArray) (_ : Nat) : Value := .string s
theorem einfo_string : EInfo Tryz.prog 9 1 16 := EInfo.of (z := .string ⟨#[]⟩) (by kernel_rfl) rfl (by decide)
theorem getD_of_get {l : List ByteArray} {k : Nat} (h : k < l.length) : l.getD k ByteArray.empty = l[k] := by simp [h]
set_option maxRecDepth 100000 in
set_option maxHeartbeats 4000000 in
theorem namesFault_v (A : Option Addr) (n c : Nat) (l : List ByteArray) (w : World) (hs : Sl w 9 1 strE A n l) (hn : n ≤ 200000) (hsz : ∀ s ∈ l, s.size ≤ 1000000) (hU : Utf8T w) :
    Calls Tryz.prog 123 #[.slice A n c] w fun e w' => e = .returned (.int .i64 (namesF l)) ∧ New w w' := by
  obtain ⟨F, hF⟩ : ∃ F, F = namesF l := ⟨_, rfl⟩
  rw [← hF]
  have HF := hId hF
  have HL := hId hs.1
  have HS := hId hs
  have HSZ := hId hsz
  have HU := hId hU
  clear hF hs hsz hU
  go_enter Tryz.func123, Tryz.ntmps123
  go_wp2_with fail
  go_loopw [8] (fun i wr => ∃ k : Nat, k ≤ n ∧ i = .int .i64 k ∧ Hid (fz ((List.range k).map (nameAt l)) = 0) ∧ Hid (New w wr)) (fun i _ => n - (intOf i).toNat)
  case atStart => exact ⟨0, Nat.zero_le _, rfl, hId rfl, hId (Mod.refl _ _)⟩
  case round =>
    rename World => wr
    obtain ⟨k, hk, rfl, H0, HM⟩ := hrel
    by_cases hlt : k < n
    · have hkl : k < l.length := by have := HL.out; omega
      obtain ⟨g, o, hA, htb, hc⟩ := (HS.out.new HM.out).2 (by omega)
      subst hA
      have hgl := htb.lt
      have ck : wr.cell? ⟨g, o + k, none⟩ = some (.string l[k]) := by simpa [strE] using hc k hkl 0 (by omega)
      have HPREV : Hid (0 < k → ∀ w', New wr w' → w'.cell? ⟨g, o + (k - 1), none⟩ = some (.string (l.getD (k - 1) ByteArray.empty))) := hId (fun h0 w' hm => by
        have h1 : k - 1 < l.length := by omega
        rw [getD_of_get h1]
        exact (hm.cell (p := ⟨g, o + (k - 1), none⟩) hgl (fun e => e)).trans (by simpa [strE] using hc (k - 1) h1 0 (by omega)))
      have hnb := HSZ.out l[k] (List.getElem_mem _)
      have HE := hId (nameAt_eq (l := l) (k := k) (s := l[k]) (by simp [hkl]) _ (fun _ => rfl))
      have HSTOP : Hid (∀ f, nameAt l k = f → f ≠ 0 → F = f) := hId (fun f h1 h2 => by
        rw [HF.out, names_stop hkl H0.out (by rw [h1]; exact h2), h1])
      have HNEXT : Hid (nameAt l k = 0 → fz ((List.range (k + 1)).map (nameAt l)) = 0) := hId (fun h => by rw [names_next H0.out, h])
      generalize l.getD (k - 1) ByteArray.empty = p at *
      generalize hnm : l[k] = nm at *
      have hb1 : (0 : Int) ≤ k := by omega
      have hb2 : (k : Int) < n := by omega
      have hn2 := ref_nameFault_v nm wr hnb (HU.out.new HM.out)
      clear hc hnm htb hnb
      go_wp2_with fail
      refine hn2.mono ?_
      clear hn2
      rintro e w5 ⟨rfl, m5⟩
      have HM5 := hId (HM.out.trans m5)
      have hg5 : g < w5.heap.size := Nat.lt_of_lt_of_le hgl m5.size
      have hcp : 0 < k → w5.cell? ⟨g, o + (k - 1), none⟩ = some (.string p) := fun h => HPREV.out h w5 m5
      clear ck hgl m5 HPREV
      by_cases hn0 : nameF nm = 0
      · rw [hn0]
        have HE2 : Hid (nameAt l k = if 0 < k ∧ strLeV nm p = true then 7 else 0) := hId (by rw [HE.out, if_neg (by simp [hn0])])
        clear hn0 HE
        by_cases h0 : 0 < k
        · have hp2 := hcp h0
          have hb3 : (0 : Int) < k := by omega
          have hb4 : (0 : Int) ≤ (k : Int) - 1 := by omega
          have hb5 : (k : Int) - 1 < n := by omega
          have H0K := hId h0
          clear hcp
          go_upto_if 28 with (fail)
          have HE3 : Hid (nameAt l k = if 0 < k ∧ (Op.bytesLess nm.toList p.toList || nm.toList == p.toList) = true then 7 else 0) := HE2
          generalize (Op.bytesLess nm.toList p.toList || nm.toList == p.toList) = B at *
          cases B with
          | true =>
            have HFF := hId (HSTOP.out 7 (by rw [HE3.out, if_pos ⟨H0K.out, rfl⟩]) (by decide))
            go_wp2_with fail
            go_ret
            exact ⟨ret_int HFF.out.symm, HM5.out⟩
          | false =>
            have HG := hId (HNEXT.out (by rw [HE3.out, if_neg (by simp)]))
            go_wp2_with fail
            go_roundw
            case rel => exact ⟨k + 1, by omega, by go_num, HG, HM5⟩
            case measure => simp [intOf]; omega
        · obtain rfl : k = 0 := by omega
          have hd : decide ((0 : Int) < ((0 : Nat) : Int)) = false := by simp
          have HG := hId (HNEXT.out (by rw [HE2.out]; simp))
          go_wp2_with fail
          go_roundw
          case rel => exact ⟨0 + 1, by omega, by go_num, HG, HM5⟩
          case measure => simp [intOf]; omega
      · have hn1 : (nameF nm != 0) = true := by simpa using hn0
        have HFF := hId (HSTOP.out (nameF nm) (by rw [HE.out, if_pos hn0]) hn0)
        clear hn0 HE
        generalize nameF nm = nf at *
        go_wp2_with fail
        go_ret
        exact ⟨ret_int HFF.out.symm, HM5.out⟩
    · obtain rfl : k = n := by omega
      have HFF : Hid (F = 0) := hId (by rw [HF.out]; unfold namesF; rw [HL.out]; exact H0.out)
      clear H0
      go_wp2_with fail
      go_ret
      exact ⟨ret_int HFF.out.symm, HM.out⟩

end Go.Proofs.YtjmnkdkdjnmejaaGreatDoor
