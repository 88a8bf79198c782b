/- What is wrong with a value: the program's check, and value.Check. Conditions: the value stands in memory as a tree; the library's tables lie as they should. -/
import Derived.Test.YtahofcopedlenaaGreatDoorVal3
namespace Go.Proofs.YtahofcopedlenaaGreatDoor
open Go.RowKit
set_option linter.unusedVariables false
set_option linter.unusedSimpArgs false

/-- the head's fault, over the cells -/
def headX (x : VA) : Int :=
  if x.kind < 0 ∨ 5 < x.kind then 4 else if idleX x = false then 3 else if x.num < -1000000000000000 ∨ 1000000000000000 < x.num then 1 else
  if 5000 < x.words.size then 2 else if validW x.words = false then 3 else 0
theorem Tree.head {w : World} {G : Nat → Prop} {d : Nat} {x : VA} {v : VT} (h : Tree w G d x v) : headF v = headX x := by
  obtain ⟨h1, h2, h3, h4, h5, h6⟩ := h.fields
  unfold headF headX
  rw [h1, h3, h4, h.idle]
theorem names_getD {v : VT} {k : Nat} (h : k < v.mem.length) : (v.mem.map (·.1)).getD k ByteArray.empty = v.mem[k].1 := by
  simp [List.getD_eq_getElem?_getD, h]
theorem names_get {v : VT} {k : Nat} (h : k < v.mem.length) : (v.mem.map (·.1))[k]? = some v.mem[k].1 := by
  simp [h]

set_option maxRecDepth 100000 in
set_option maxHeartbeats 4000000 in
theorem fault_v (d : Nat) : ∀ (x : VA) (v : VT) (G : Nat → Prop) (w : World), Tree w G d x v → Fit d v → Utf8T w →
    Calls Tryz.prog 50 #[x.val] w fun e w' => e = .returned (.int .i64 (vFault d v)) ∧ New w w' := by
  induction d with
  | zero => intro x v G w ht; exact ht.elim
  | succ d ih =>
    intro x v G w ht hW hU
    have hwp := hW.parts
    have HWI := Lib.hid (fun k (h : k < v.list.length) => hW.item h)
    have HWMB := Lib.hid (fun k (h : k < v.mem.length) => hW.member h)
    have hfl := ht.fields
    have hhd := ht.head
    have HT := Lib.hid ht
    have HU := Lib.hid hU
    have HIH := Lib.hid ih
    have hF : vFault (d + 1) v = orF (orF (headF v) (namesF (v.mem.map (·.1)))) (orF (fz (v.list.map (vFault d))) (fz (v.mem.map fun p => vFault d p.2))) := rfl
    rw [hhd] at hF
    have hws : v.words.size ≤ 1000000 := by omega
    have hlb : v.list.length ≤ 200000 ∧ v.mem.length ≤ 200000 := by omega
    obtain ⟨hlb1, hlb2⟩ := hlb
    have hid1 := fun W => idle_v x W
    obtain ⟨kind, flag, num, words, la, ln, lc, ma, mn, mc⟩ := x
    obtain ⟨-, -, -, hwd, hln, hmn⟩ := hfl
    simp only at hln hmn hwd
    rw [hwd] at hws
    have HF := Lib.hid hF
    have HLN := Lib.hid hln
    have HMN := Lib.hid hmn
    have hvl := fun W (hW : Utf8T W) => valid_v words W hws hW
    have hXE : headX ⟨kind, flag, num, words, la, ln, lc, ma, mn, mc⟩ = if kind < 0 ∨ 5 < kind then 4 else if idleX ⟨kind, flag, num, words, la, ln, lc, ma, mn, mc⟩ = false then 3 else if num < -1000000000000000 ∨ 1000000000000000 < num then 1 else if 5000 < words.size then 2 else if validW words = false then 3 else 0 := rfl
    have HXE := Lib.hid hXE
    rw [hln] at hlb1
    rw [hmn] at hlb2
    clear hwp hW hF hhd ht hU ih hln hmn hwd hXE
    generalize vFault (d + 1) v = F at *
    generalize headX ⟨kind, flag, num, words, la, ln, lc, ma, mn, mc⟩ = H at *
    generalize idleX ⟨kind, flag, num, words, la, ln, lc, ma, mn, mc⟩ = I at *
    generalize validW words = V at *
    have hx := Blk.new w 29 #[.int .i64 kind, .bool flag, .int .i64 num, .string words, .slice la ln lc, .slice ma mn mc]
    have hm1 : New w (w.alloc (.cells #[.int .i64 kind, .bool flag, .int .i64 num, .string words, .slice la ln lc, .slice ma mn mc] 29)) := (Mod.refl _ _).alloc _
    go_enter Tryz.func50, Tryz.ntmps50
    go_upto_region 1 with (fail)
    generalize w.alloc (.cells #[.int .i64 kind, .bool flag, .int .i64 num, .string words, .slice la ln lc, .slice ma mn mc] 29) = w1 at *
    generalize w.heap.size = xb at *
    have HX := Lib.hid hx
    have HM1 := Lib.hid hm1
    have hxx := hx
    clear hx hm1
    have e0 := hxx.cell 0
    have e1 := hxx.cell 1
    have e2 := hxx.cell 2
    have e3 := hxx.cell 3
    have e4 := hxx.cell 4
    have e5 := hxx.cell 5
    have el := hxx.lt
    simp only [List.getElem?_toArray, List.getElem?_cons_zero, List.getElem?_cons_succ] at e0 e1 e2 e3 e4 e5
    go_wp2_with fail
    refine (outside_v _ _ _ _).mono ?_
    rintro e w2 ⟨rfl, rfl⟩
    by_cases q1 : kind < 0 ∨ 5 < kind
    · rw [show (!(decide (0 ≤ kind) && decide (kind ≤ 5))) = true by simp; omega]
      have HE : Hid (F = 4) := Lib.hid (by rw [HF.out, HXE.out, if_pos q1]; simp [orF])
      go_wp2_with fail
      go_ret
      exact ⟨ret_int HE.out.symm, HM1.out⟩
    rw [show (!(decide (0 ≤ kind) && decide (kind ≤ 5))) = false by simp; omega]
    have HXE1 : Hid (H = if I = false then 3 else if num < -1000000000000000 ∨ 1000000000000000 < num then 1 else if 5000 < words.size then 2 else if V = false then 3 else 0) := Lib.hid (by rw [HXE.out, if_neg q1])
    clear q1 HXE
    go_wp2_with fail
    refine (hid1 _).mono ?_
    clear hid1
    rintro e w3 ⟨rfl, m3⟩
    have HX3 := Lib.hid (HX.out.mod m3 (fun e => e))
    have HM3 := Lib.hid (HM1.out.trans m3)
    clear e0 e1 e2 e3 e4 e5 el hxx
    have hxx := HX3.out
    have e0 := hxx.cell 0
    have e1 := hxx.cell 1
    have e2 := hxx.cell 2
    have e3 := hxx.cell 3
    have e4 := hxx.cell 4
    have e5 := hxx.cell 5
    have el := hxx.lt
    simp only [List.getElem?_toArray, List.getElem?_cons_zero, List.getElem?_cons_succ] at e0 e1 e2 e3 e4 e5
    clear HX HM1 m3
    cases I with
    | false =>
      have HE : Hid (F = 3) := Lib.hid (by rw [HF.out, HXE1.out]; simp [orF])
      go_wp2_with fail
      go_ret
      exact ⟨ret_int HE.out.symm, HM3.out⟩
    | true =>
    have HXE2 : Hid (H = if num < -1000000000000000 ∨ 1000000000000000 < num then 1 else if 5000 < words.size then 2 else if V = false then 3 else 0) := Lib.hid (by rw [HXE1.out, if_neg (by simp)])
    clear HXE1
    go_wp2_with fail
    refine (outside_v _ _ _ _).mono ?_
    rintro e w2 ⟨rfl, rfl⟩
    by_cases q1 : num < -1000000000000000 ∨ 1000000000000000 < num
    · rw [show (!(decide (-1000000000000000 ≤ num) && decide (num ≤ 1000000000000000))) = true by simp; omega]
      have HE : Hid (F = 1) := Lib.hid (by rw [HF.out, HXE2.out, if_pos q1]; simp [orF])
      go_wp2_with fail
      go_ret
      exact ⟨ret_int HE.out.symm, HM3.out⟩
    rw [show (!(decide (-1000000000000000 ≤ num) && decide (num ≤ 1000000000000000))) = false by simp; omega]
    have HXE3 : Hid (H = if 5000 < words.size then 2 else if V = false then 3 else 0) := Lib.hid (by rw [HXE2.out, if_neg q1])
    clear q1 HXE2
    by_cases q1 : 5000 < words.size
    · have hg : (5000 : Int) < words.size := by omega
      have HE : Hid (F = 2) := Lib.hid (by rw [HF.out, HXE3.out, if_pos q1]; simp [orF])
      go_wp2_with fail
      go_ret
      exact ⟨ret_int HE.out.symm, HM3.out⟩
    have hg : ¬ (5000 : Int) < words.size := by omega
    have HXE4 : Hid (H = if V = false then 3 else 0) := Lib.hid (by rw [HXE3.out, if_neg q1])
    clear q1 HXE3
    go_wp2_with fail
    refine (hvl _ (HU.out.new HM3.out)).mono ?_
    clear hvl
    rintro e w4 ⟨rfl, m4⟩
    have HX4 := Lib.hid (HX3.out.mod m4 (fun e => e))
    have HM4 := Lib.hid (HM3.out.trans m4)
    clear e0 e1 e2 e3 e4 e5 el hxx
    have hxx := HX4.out
    have e0 := hxx.cell 0
    have e1 := hxx.cell 1
    have e2 := hxx.cell 2
    have e3 := hxx.cell 3
    have e4 := hxx.cell 4
    have e5 := hxx.cell 5
    have el := hxx.lt
    simp only [List.getElem?_toArray, List.getElem?_cons_zero, List.getElem?_cons_succ] at e0 e1 e2 e3 e4 e5
    clear HX3 HM3 m4 hg hws
    cases V with
    | false =>
      have HE : Hid (F = 3) := Lib.hid (by rw [HF.out, HXE4.out]; simp [orF])
      go_wp2_with fail
      go_ret
      exact ⟨ret_int HE.out.symm, HM4.out⟩
    | true =>
    have HF2 : Hid (F = orF (namesF (v.mem.map (·.1))) (orF (fz (v.list.map (vFault d))) (fz (v.mem.map fun p => vFault d p.2)))) := Lib.hid (by rw [HF.out, HXE4.out]; simp [orF])
    clear HF HXE4
    go_wp2_with fail
    clear e0 e1 e2 e3 e4 e5 el hxx
    go_loopw [37] (fun i wr => ∃ k : Nat, k ≤ mn ∧ i = .int .i64 k ∧ Hid (fz ((List.range k).map (nameAt (v.mem.map (·.1)))) = 0) ∧ Hid (New w4 wr)) (fun i _ => mn - (intOf i).toNat)
    case atStart => exact ⟨0, Nat.zero_le _, rfl, Lib.hid rfl, Lib.hid (Mod.refl _ _)⟩
    case round =>
      rename World => wr
      obtain ⟨k, hk, rfl, H0, HM⟩ := hrel
      have hxx := HX4.out.mod HM.out (fun e => e)
      by_cases hlt : k < mn
      · have hkl : k < v.mem.length := by have := HMN.out; omega
        have hT := HT.out.new (HM4.out.trans HM.out)
        obtain ⟨g, o, y, hA, hgl, htb, -, hcn, hc, -⟩ := hT.member hkl
        simp only at hA
        subst hA
        have hprev : 0 < k → wr.cell? ⟨g, o + (k - 1) * 7, none⟩ = some (.string ((v.mem.map (·.1)).getD (k - 1) ByteArray.empty)) := fun h0 => by
          obtain ⟨g', o', y', hA', _, _, _, hcn', _, _⟩ := hT.member (i := k - 1) (by omega)
          simp only at hA'
          injection hA' with hA'
          injection hA' with h1 h2
          subst h1 h2
          rw [hcn', names_getD (by omega)]
        have HE := Lib.hid (nameAt_eq (names_get hkl) _ (fun _ => rfl))
        have hnb := (HWMB.out k hkl).2
        have HSTOP : Hid (∀ f, nameAt (v.mem.map (·.1)) k = f → f ≠ 0 → F = f) := Lib.hid (fun f h1 h2 => by
          rw [HF2.out, names_stop (by simpa using hkl) H0.out (by rw [h1]; exact h2), h1]
          simp [orF, h2])
        have HNEXT : Hid (nameAt (v.mem.map (·.1)) k = 0 → fz ((List.range (k + 1)).map (nameAt (v.mem.map (·.1)))) = 0) := Lib.hid (fun h => by rw [names_next H0.out, h])
        generalize (v.mem.map (·.1)).getD (k - 1) ByteArray.empty = p at *
        generalize hnm : v.mem[k].1 = nm at *
        have HPREV := Lib.hid hprev
        obtain ⟨yk, yf, yn, yw, yla, yln, ylc, yma, ymn, ymc⟩ := y
        have c0 := hc 0 (by omega)
        have c1 := hc 1 (by omega)
        have c2 := hc 2 (by omega)
        have c3 := hc 3 (by omega)
        have c4 := hc 4 (by omega)
        have c5 := hc 5 (by omega)
        simp only [VA.enc, Nat.add_zero, Nat.zero_add] at c0 c1 c2 c3 c4 c5
        have e0 := hxx.cell 0
        have e1 := hxx.cell 1
        have e2 := hxx.cell 2
        have e3 := hxx.cell 3
        have e4 := hxx.cell 4
        have e5 := hxx.cell 5
        have el := hxx.lt
        simp only [List.getElem?_toArray, List.getElem?_cons_zero, List.getElem?_cons_succ] at e0 e1 e2 e3 e4 e5
        have hb1 : (0 : Int) ≤ k := by omega
        have hb2 : (k : Int) < mn := by omega
        have hmx := Blk.new wr 49 #[.string nm, .int .i64 yk, .bool yf, .int .i64 yn, .string yw, .slice yla yln ylc, .slice yma ymn ymc]
        have hma : New wr (wr.alloc (.cells #[.string nm, .int .i64 yk, .bool yf, .int .i64 yn, .string yw, .slice yla yln ylc, .slice yma ymn ymc] 49)) := (Mod.refl _ _).alloc _
        clear hT hc hprev hnm
        go_upto_region 14 with (fail)
        generalize wr.alloc (.cells #[.string nm, .int .i64 yk, .bool yf, .int .i64 yn, .string yw, .slice yla yln ylc, .slice yma ymn ymc] 49) = wm at *
        have HGL := Lib.hid hgl
        generalize hmb : wr.heap.size = mb at *
        have HMB := Lib.hid hmb
        clear hmb
        have hn := nameFault_v nm wm (by omega) (HU.out.new ((HM4.out.trans HM.out).trans hma))
        have n0 := hmx.cell 0
        have nl := hmx.lt
        simp only [List.getElem?_toArray, List.getElem?_cons_zero] at n0
        have HMX := Lib.hid hmx
        have HMA := Lib.hid hma
        go_wp2_with fail
        refine hn.mono ?_
        clear hn
        rintro e w5 ⟨rfl, m5⟩
        have HM5 := Lib.hid (HM.out.trans (HMA.out.trans m5))
        have hmx5 := HMX.out.mod m5 (fun e => e)
        have hcp : 0 < k → w5.cell? ⟨g, o + (k - 1) * 7, none⟩ = some (.string p) := fun h => ((HMA.out.trans m5).cell (p := ⟨g, o + (k - 1) * 7, none⟩) (by rw [HMB.out]; exact HGL.out) (fun e => e)).trans (HPREV.out h)
        have hg5 : g < w5.heap.size := Nat.lt_of_lt_of_le HGL.out (by rw [← HMB.out]; exact (HMA.out.trans m5).size)
        clear e0 e1 e2 e3 e4 e5 el hxx
        have hxx := HX4.out.mod HM5.out (fun e => e)
        clear n0 nl c0 c1 c2 c3 c4 c5 hcn hmx hma hgl htb m5 HMX HMA HPREV hnb
        have n0 := hmx5.cell 0
        have nl := hmx5.lt
        simp only [List.getElem?_toArray, List.getElem?_cons_zero] at n0
        have e0 := hxx.cell 0
        have e1 := hxx.cell 1
        have e2 := hxx.cell 2
        have e3 := hxx.cell 3
        have e4 := hxx.cell 4
        have e5 := hxx.cell 5
        have el := hxx.lt
        simp only [List.getElem?_toArray, List.getElem?_cons_zero, List.getElem?_cons_succ] at e0 e1 e2 e3 e4 e5
        clear hmx5
        by_cases hn0 : nameF nm = 0
        · rw [hn0]
          have HE2 : Hid (nameAt (v.mem.map (·.1)) k = if 0 < k ∧ strLeV nm p = true then 7 else 0) := Lib.hid (by rw [HE.out, if_neg (by simp [hn0])])
          clear hn0 HE
          by_cases h0 : 0 < k
          · have hp2 := hcp h0
            have hb3 : (0 : Int) < k := by omega
            have hb4 : (0 : Int) ≤ (k : Int) - 1 := by omega
            have hb5 : (k : Int) - 1 < mn := by omega
            have H0K := Lib.hid h0
            clear hcp
            go_wp2_with fail
            go_quiet (fail)
            have HE3 : Hid (nameAt (v.mem.map (·.1)) k = if 0 < k ∧ (Op.bytesLess nm.toList p.toList || nm.toList == p.toList) = true then 7 else 0) := HE2
            generalize (Op.bytesLess nm.toList p.toList || nm.toList == p.toList) = B at *
            cases B with
            | true =>
              have HFF := Lib.hid (HSTOP.out 7 (by rw [HE3.out, if_pos ⟨H0K.out, rfl⟩]) (by decide))
              go_wp2_with fail
              go_ret
              exact ⟨ret_int HFF.out.symm, HM4.out.trans (HM5.out.drewN _)⟩
            | false =>
              have HG := Lib.hid (HNEXT.out (by rw [HE3.out, if_neg (by simp)]))
              go_wp2_with fail
              go_roundw
              case rel => exact ⟨k + 1, by omega, by go_num, HG, Lib.hid (HM5.out.drewN _)⟩
              case measure => simp [intOf]; omega
          · obtain rfl : k = 0 := by omega
            have hd : decide ((0 : Int) < ((0 : Nat) : Int)) = false := by simp
            have HG := Lib.hid (HNEXT.out (by rw [HE2.out]; simp))
            go_wp2_with fail
            go_quiet (fail)
            go_wp2_with fail
            go_roundw
            case rel => exact ⟨0 + 1, by omega, by go_num, HG, Lib.hid (HM5.out.drewN _)⟩
            case measure => simp [intOf]; omega
        · have hn1 : (nameF nm != 0) = true := by simpa using hn0
          have HFF := Lib.hid (HSTOP.out (nameF nm) (by rw [HE.out, if_pos hn0]) hn0)
          clear hn0 HE
          generalize nameF nm = nf at *
          go_wp2_with fail
          go_ret
          exact ⟨ret_int HFF.out.symm, HM4.out.trans HM5.out⟩
      · obtain rfl : k = mn := by omega
        have HF3 : Hid (F = orF (fz (v.list.map (vFault d))) (fz (v.mem.map fun p => vFault d p.2))) := Lib.hid (by
          have hz : namesF (v.mem.map (·.1)) = 0 := by
            unfold namesF
            rw [List.length_map, HMN.out]
            exact H0.out
          rw [HF2.out, hz]
          simp [orF])
        have e0 := hxx.cell 0
        have e1 := hxx.cell 1
        have e2 := hxx.cell 2
        have e3 := hxx.cell 3
        have e4 := hxx.cell 4
        have e5 := hxx.cell 5
        have el := hxx.lt
        simp only [List.getElem?_toArray, List.getElem?_cons_zero, List.getElem?_cons_succ] at e0 e1 e2 e3 e4 e5
        clear H0 HF2 hlt hk
        have HMW := Lib.hid (HM4.out.trans HM.out)
        have HX5 := Lib.hid (HX4.out.mod HM.out (fun e => e))
        clear HM HM4 HX4
        go_wp2_with fail
        clear e0 e1 e2 e3 e4 e5 el hxx
        go_loopw [66] (fun i wq => ∃ j : Nat, j ≤ ln ∧ i = .int .i64 j ∧ Hid (fz ((v.list.take j).map (vFault d)) = 0) ∧ Hid (New wr wq)) (fun i _ => ln - (intOf i).toNat)
        case atStart => exact ⟨0, Nat.zero_le _, rfl, Lib.hid rfl, Lib.hid (Mod.refl _ _)⟩
        case round =>
          rename World => wq
          obtain ⟨j, hj, rfl, H0, HM⟩ := hrel
          have hxx := HX5.out.mod HM.out (fun e => e)
          by_cases hlt : j < ln
          · have hjl : j < v.list.length := by have := HLN.out; omega
            have hT := HT.out.new (HMW.out.trans HM.out)
            obtain ⟨g, o, y, hA, hgl, htb, -, hc, hty⟩ := hT.item hjl
            simp only at hA
            subst hA
            have HSTOP : Hid (vFault d v.list[j] ≠ 0 → F = vFault d v.list[j]) := Lib.hid (fun h => by
              rw [HF3.out, fz_map_stop (vFault d) hjl H0.out h]
              simp [orF, h])
            have HNEXT : Hid (vFault d v.list[j] = 0 → fz ((v.list.take (j + 1)).map (vFault d)) = 0) := Lib.hid (fun h => by rw [fz_map_take _ hjl, H0.out, h]; rfl)
            obtain ⟨yk, yf, yn, yw, yla, yln, ylc, yma, ymn, ymc⟩ := y
            have c0 := hc 0 (by omega)
            have c1 := hc 1 (by omega)
            have c2 := hc 2 (by omega)
            have c3 := hc 3 (by omega)
            have c4 := hc 4 (by omega)
            have c5 := hc 5 (by omega)
            simp only [VA.enc, Nat.add_zero, Nat.zero_add] at c0 c1 c2 c3 c4 c5
            have hb1 : (0 : Int) ≤ j := by omega
            have hb2 : (j : Int) < ln := by omega
            have hma : New wq (wq.alloc (.cells #[.int .i64 yk, .bool yf, .int .i64 yn, .string yw, .slice yla yln ylc, .slice yma ymn ymc] 29)) := (Mod.refl _ _).alloc _
            have hI := HIH.out ⟨yk, yf, yn, yw, yla, yln, ylc, yma, ymn, ymc⟩ v.list[j] G (wq.alloc (.cells #[.int .i64 yk, .bool yf, .int .i64 yn, .string yw, .slice yla yln ylc, .slice yma ymn ymc] 29)) (hty.new hma) (HWI.out j hjl) (HU.out.new ((HMW.out.trans HM.out).trans hma))
            have HMA := Lib.hid (HM.out.trans hma)
            clear hT hc hty hma hxx htb
            generalize vFault d v.list[j] = f at *
            go_wp2_with fail
            refine hI.mono ?_
            clear hI
            rintro e w5 ⟨rfl, m5⟩
            have HM5 := Lib.hid (HMA.out.trans m5)
            clear m5
            by_cases hf : f = 0
            · have HG := Lib.hid (HNEXT.out hf)
              have hf1 : (f != 0) = false := by simpa using hf
              clear hf
              go_wp2_with fail
              go_roundw
              case rel => exact ⟨j + 1, by omega, by go_num, HG, HM5⟩
              case measure => simp [intOf]; omega
            · have HFF := Lib.hid (HSTOP.out hf)
              have hf1 : (f != 0) = true := by simpa using hf
              clear hf
              go_wp2_with fail
              go_ret
              exact ⟨ret_int HFF.out.symm, HMW.out.trans HM5.out⟩
          · obtain rfl : j = ln := by omega
            have HF4 : Hid (F = fz (v.mem.map fun p => vFault d p.2)) := Lib.hid (by
              have hz := H0.out
              rw [List.take_of_length_le (by have := HLN.out; omega)] at hz
              rw [HF3.out, hz]
              simp [orF])
            have e0 := hxx.cell 0
            have e1 := hxx.cell 1
            have e2 := hxx.cell 2
            have e3 := hxx.cell 3
            have e4 := hxx.cell 4
            have e5 := hxx.cell 5
            have el := hxx.lt
            simp only [List.getElem?_toArray, List.getElem?_cons_zero, List.getElem?_cons_succ] at e0 e1 e2 e3 e4 e5
            clear H0 HF3 hlt hj
            have HMV := Lib.hid (HMW.out.trans HM.out)
            clear HM HMW HX5
            go_wp2_with fail
            clear e0 e1 e2 e3 e4 e5 el hxx
            go_loopw [79] (fun i wz => ∃ i' : Nat, i' ≤ k ∧ i = .int .i64 i' ∧ Hid (fz ((v.mem.take i').map fun p => vFault d p.2) = 0) ∧ Hid (New wq wz)) (fun i _ => k - (intOf i).toNat)
            case atStart => exact ⟨0, Nat.zero_le _, rfl, Lib.hid rfl, Lib.hid (Mod.refl _ _)⟩
            case round =>
              rename World => wz
              obtain ⟨j, hj, rfl, H0, HM⟩ := hrel
              by_cases hlt : j < k
              · have hjl : j < v.mem.length := by have := HMN.out; omega
                have hT := HT.out.new (HMV.out.trans HM.out)
                obtain ⟨g, o, y, hA, hgl, htb, -, hcn, hc, hty⟩ := hT.member hjl
                simp only at hA
                subst hA
                have HSTOP : Hid (vFault d v.mem[j].2 ≠ 0 → F = vFault d v.mem[j].2) := Lib.hid (fun h => by
                  rw [HF4.out, fz_map_stop (fun p : ByteArray × VT => vFault d p.2) hjl H0.out h])
                have HNEXT : Hid (vFault d v.mem[j].2 = 0 → fz ((v.mem.take (j + 1)).map fun p => vFault d p.2) = 0) := Lib.hid (fun h => by rw [fz_map_take _ hjl, H0.out, h]; rfl)
                obtain ⟨yk, yf, yn, yw, yla, yln, ylc, yma, ymn, ymc⟩ := y
                have c0 := hc 0 (by omega)
                have c1 := hc 1 (by omega)
                have c2 := hc 2 (by omega)
                have c3 := hc 3 (by omega)
                have c4 := hc 4 (by omega)
                have c5 := hc 5 (by omega)
                simp only [VA.enc, Nat.add_zero, Nat.zero_add] at c0 c1 c2 c3 c4 c5
                have hb1 : (0 : Int) ≤ j := by omega
                have hb2 : (j : Int) < k := by omega
                have hwm := (HWMB.out j hjl).1
                generalize v.mem[j].1 = nm at *
                have hma : New wz (wz.alloc (.cells #[.string nm, .int .i64 yk, .bool yf, .int .i64 yn, .string yw, .slice yla yln ylc, .slice yma ymn ymc] 49)) := (Mod.refl _ _).alloc _
                have hI := HIH.out ⟨yk, yf, yn, yw, yla, yln, ylc, yma, ymn, ymc⟩ v.mem[j].2 G (wz.alloc (.cells #[.string nm, .int .i64 yk, .bool yf, .int .i64 yn, .string yw, .slice yla yln ylc, .slice yma ymn ymc] 49)) (hty.new hma) hwm (HU.out.new ((HMV.out.trans HM.out).trans hma))
                have HMA := Lib.hid (HM.out.trans hma)
                clear hT hc hty hma htb hwm
                generalize vFault d v.mem[j].2 = f at *
                go_wp2_with fail
                refine hI.mono ?_
                clear hI
                rintro e w5 ⟨rfl, m5⟩
                have HM5 := Lib.hid (HMA.out.trans m5)
                clear m5
                by_cases hf : f = 0
                · have HG := Lib.hid (HNEXT.out hf)
                  have hf1 : (f != 0) = false := by simpa using hf
                  clear hf
                  go_wp2_with fail
                  go_roundw
                  case rel => exact ⟨j + 1, by omega, by go_num, HG, HM5⟩
                  case measure => simp [intOf]; omega
                · have HFF := Lib.hid (HSTOP.out hf)
                  have hf1 : (f != 0) = true := by simpa using hf
                  clear hf
                  go_wp2_with fail
                  go_ret
                  exact ⟨ret_int HFF.out.symm, HMV.out.trans HM5.out⟩
              · obtain rfl : j = k := by omega
                have HFF : Hid (F = 0) := Lib.hid (by
                  have hz := H0.out
                  rw [List.take_of_length_le (by have := HMN.out; omega)] at hz
                  rw [HF4.out, hz])
                go_wp2_with fail
                go_ret
                exact ⟨ret_int HFF.out.symm, HMV.out.trans HM.out⟩

end Go.Proofs.YtahofcopedlenaaGreatDoor
