/- The law ValuesChecked, walked. Conditions: the argument is a slice of ints that can be read; the library's tables lie as they should. -/
import Derived.Test.YtjnbjianfbfdaaaDoorValues0
namespace Go.Proofs.YtjnbjianfbfdaaaDoor
open Go.RowKit
set_option linter.unusedVariables false
set_option linter.unusedSimpArgs false


set_option maxRecDepth 100000 in
set_option maxHeartbeats 2000000 in
theorem values_walk (A : Option Addr) (n c : Nat) (w : World) (h : InInts w A n) (hT0 : Pow10 w) (hU0 : Utf8T w) :
    Calls Tryd.prog 3 #[.slice A n c] w fun e w' => e = .returned (.bool true) ∧ New w w' := by
  have hs := SInv.start (c := c) h
  have hA : New w (w.alloc (.cells #[.slice A n c, .int .i64 0] 25)) := (Mod.refl _ _).alloc _
  have HTA := Lib.hid (hT0.new hA)
  have HUA := Lib.hid (hU0.new hA)
  have HT0 := Lib.hid hT0
  have HU0 := Lib.hid hU0
  have hv3 := stream_val 3 (by omega) w.heap.size 0 _ hs (by omega)
  go_enter Tryd.func3, Tryd.ntmps3
  go_wp2_with fail
  refine hv3.mono ?_
  clear hv3
  rintro e w1 ⟨x, rfl, hax, h1⟩
  have hv2 := stream_val 2 (by omega) w.heap.size _ w1 h1.inv (by omega)
  go_wp2_with fail
  refine hv2.mono ?_
  clear hv2
  rintro e w2 ⟨y, rfl, hby, h2⟩
  have hax2 := hax.stream h2 h1.inv.tb
  have T2 := h1.trans h2
  have HP2 := Lib.hid (HT0.out.mod HTA.out T2.only (fun g hg e => by omega))
  have HU2 := Lib.hid (HU0.out.mod HUA.out T2.only (fun g hg e => by omega))
  generalize hW0 : w.alloc (.cells #[.slice A n c, .int .i64 0] 25) = W0 at *
  have hnews : ∀ w' k, SStep w.heap.size W0 w' k → New w w' := fun w' k hh => by rw [← hW0] at hh; exact hh.news
  have HN := Lib.hid hnews
  have hzW : W0.heap.size = w.heap.size + 1 := by rw [← hW0]; simp
  have hz2 : W0.heap.size ≤ w2.heap.size := T2.only.size
  generalize hsb : w.heap.size = sb at *
  obtain ⟨va, a1, a2, a3⟩ := hax2
  obtain ⟨vb, b1, b2, b3⟩ := hby
  clear hnews hW0 hs hA h1 h2 hax h hT0 hU0 HTA HUA
  obtain ⟨xk, xf, xn, xw, xla, xln, xlc, xma, xmn, xmc⟩ := x
  obtain ⟨yk, yf, yn, yw, yla, yln, ylc, yma, ymn, ymc⟩ := y
  have bA := Blk.new w2 29 #[.int .i64 xk, .bool xf, .int .i64 xn, .string xw, .slice xla xln xlc, .slice xma xmn xmc]
  have mA : New w2 (w2.alloc (.cells #[.int .i64 xk, .bool xf, .int .i64 xn, .string xw, .slice xla xln xlc, .slice xma xmn xmc] 29)) := (Mod.refl _ _).alloc _
  have bB := Blk.new (w2.alloc (.cells #[.int .i64 xk, .bool xf, .int .i64 xn, .string xw, .slice xla xln xlc, .slice xma xmn xmc] 29)) 29 #[.int .i64 yk, .bool yf, .int .i64 yn, .string yw, .slice yla yln ylc, .slice yma ymn ymc]
  have mB : New (w2.alloc (.cells #[.int .i64 xk, .bool xf, .int .i64 xn, .string xw, .slice xla xln xlc, .slice xma xmn xmc] 29)) ((w2.alloc (.cells #[.int .i64 xk, .bool xf, .int .i64 xn, .string xw, .slice xla xln xlc, .slice xma xmn xmc] 29)).alloc (.cells #[.int .i64 yk, .bool yf, .int .i64 yn, .string yw, .slice yla yln ylc, .slice yma ymn ymc] 29)) := (Mod.refl _ _).alloc _
  have hzA : (w2.alloc (.cells #[.int .i64 xk, .bool xf, .int .i64 xn, .string xw, .slice xla xln xlc, .slice xma xmn xmc] 29)).heap.size = w2.heap.size + 1 := by simp
  rw [hzA] at bB
  go_upto_region 3 with (fail)
  have a4 := Tree.imp (G' := fun g => g < w2.heap.size) (fun g _ hl => hl) _ _ _ a1
  have b4 := Tree.imp (G' := fun g => g < w2.heap.size) (fun g _ hl => hl) _ _ _ b1
  generalize w2.alloc (.cells #[.int .i64 xk, .bool xf, .int .i64 xn, .string xw, .slice xla xln xlc, .slice xma xmn xmc] 29) = w3 at *
  generalize w3.alloc (.cells #[.int .i64 yk, .bool yf, .int .i64 yn, .string yw, .slice yla yln ylc, .slice yma ymn ymc] 29) = w4 at *
  obtain ⟨la1, la2, la3⟩ := a4.lift a3 (show 60 ≤ 62 by omega)
  obtain ⟨lb1, lb2, lb3⟩ := b4.lift b3 (show 60 ≤ 62 by omega)
  have HA := Lib.hid (bA.mod mB (fun e => e))
  have HBB := Lib.hid bB
  have HT := Lib.hid ((T2.new mA).new mB)
  have HP := Lib.hid ((HP2.out.new mA).new mB)
  have HU := Lib.hid ((HU2.out.new mA).new mB)
  have HYA : Hid (Tree w4 (fun g => g < w2.heap.size) 62 ⟨xk, xf, xn, xw, xla, xln, xlc, xma, xmn, xmc⟩ va) := Lib.hid ((la1.new mA).new mB)
  have HYB : Hid (Tree w4 (fun g => g < w2.heap.size) 62 ⟨yk, yf, yn, yw, yla, yln, ylc, yma, ymn, ymc⟩ vb) := Lib.hid ((lb1.new mA).new mB)
  have HYA60 : Hid (Tree w4 (fun g => g < w2.heap.size) 60 ⟨xk, xf, xn, xw, xla, xln, xlc, xma, xmn, xmc⟩ va) := Lib.hid ((a4.new mA).new mB)
  have HWA : Hid (vW 62 va ≤ 70000) := Lib.hid (by rw [la2]; exact a2)
  have HWDA : Hid (Wide 12 62 va) := Lib.hid (Wide.mono (by omega) _ _ la3)
  have HWB : Hid (vW 62 vb ≤ 490000000) := Lib.hid (by rw [lb2]; omega)
  have HWDB : Hid (Wide 12 62 vb) := Lib.hid (Wide.mono (by omega) _ _ lb3)
  have HA60 := Lib.hid a2
  have HA60W := Lib.hid a3
  have hsa : sb < w2.heap.size := by omega
  clear bA mA bB mB hzA a1 a2 a3 a4 b1 b2 b3 b4 la1 la2 la3 lb1 lb2 lb3 T2 HP2 HU2 hzW
  generalize w2.heap.size = ab at *
  generalize hbb : ab + 1 = bb at *
  have hfl := flip_any sb _ 2 _ HT.out.inv (by omega) (by omega) (by omega)
  go_wp2_with fail
  refine hfl.mono ?_
  clear hfl
  rintro e w5 ⟨mf, rfl, h5⟩
  have htb := HT.out.inv.tb
  have HA1 := Lib.hid (HA.out.mod h5.only (by omega))
  have HB1 := Lib.hid (HBB.out.mod h5.only (by omega))
  have HY1 := Lib.hid (HYA.out.stream h5 htb)
  have HZ1 := Lib.hid (HYB.out.stream h5 htb)
  have HY60 := Lib.hid (HYA60.out.stream h5 htb)
  have HT1 := Lib.hid (HT.out.trans h5)
  have HP1 := Lib.hid (HT0.out.mod HP.out h5.only (fun g hg e => by omega))
  have HU1 := Lib.hid (HU0.out.mod HU.out h5.only (fun g hg e => by omega))
  clear HA HBB HYA HYB HT HP HU HYA60 h5 htb
  have HA := HA1
  have HBB := HB1
  have HYA := HY1
  have HYB := HZ1
  have HT := HT1
  have HP := HP1
  have HU := HU1
  clear HA1 HB1 HY1 HZ1 HT1 HP1 HU1
  go_upto_if 19 with (fail)
  go_cut [] (fun wx => ∃ (y : VA) (vb : VT), Hid (Blk wx ab 29 #[.int .i64 xk, .bool xf, .int .i64 xn, .string xw, .slice xla xln xlc, .slice xma xmn xmc]) ∧ Hid (Blk wx bb 29 #[.int .i64 y.kind, .bool y.flag, .int .i64 y.num, .string y.words, .slice y.la y.ln y.lc, .slice y.ma y.mn y.mc]) ∧
    Hid (Tree wx (fun _ => True) 62 ⟨xk, xf, xn, xw, xla, xln, xlc, xma, xmn, xmc⟩ va) ∧ Hid (Tree wx (fun _ => True) 62 y vb) ∧ Hid (vW 62 vb ≤ 490000000) ∧ Hid (Wide 12 62 vb) ∧ Hid (Pow10 wx) ∧ Hid (Utf8T wx) ∧ Hid (SStep sb W0 wx 100000000))
  case first =>
    cases mf with
    | false =>
      go_wp2_with fail
      go_meet
      case rel => exact ⟨⟨yk, yf, yn, yw, yla, yln, ylc, yma, ymn, ymc⟩, vb, HA, HBB, Lib.hid (Tree.imp (fun _ _ _ => trivial) _ _ _ HYA.out), Lib.hid (Tree.imp (fun _ _ _ => trivial) _ _ _ HYB.out), HWB, HWDB, HP, HU, Lib.hid (HT.out.more (by omega))⟩
    | true =>
      have hwa := HA60.out
      have hnr := near_v 60 sb _ w5 ⟨xk, xf, xn, xw, xla, xln, xlc, xma, xmn, xmc⟩ va (fun g => g < ab) 11 HT.out.inv (by omega) HY60.out HA60W.out (by omega) (by omega)
      have hxx := HA.out
      have e0 := hxx.cell 0
      have e1 := hxx.cell 1
      have e2 := hxx.cell 2
      have e3 := hxx.cell 3
      have e4 := hxx.cell 4
      have e5 := hxx.cell 5
      have el := hxx.lt
      simp only [List.getElem?_toArray, List.getElem?_cons_zero, List.getElem?_cons_succ] at e0 e1 e2 e3 e4 e5
      clear hxx
      go_wp2_with fail
      refine hnr.mono ?_
      clear hnr
      rintro e w6 ⟨z, vz, rfl, hz, hzw, hzwd, h6⟩
      have htb := HT.out.inv.tb
      have hs56 := h6.only.size
      have hab5 : bb < w5.heap.size := HBB.out.lt
      clear e0 e1 e2 e3 e4 e5 el
      have HA1 := Lib.hid (HA.out.mod h6.only (by omega))
      have HB1 := Lib.hid (HBB.out.mod h6.only (by omega))
      have HY1 := Lib.hid (HYA.out.stream h6 htb)
      have HT1 := Lib.hid (HT.out.trans h6)
      have HP1 := Lib.hid (HT0.out.mod HP.out h6.only (fun g hg e => by omega))
      have HU1 := Lib.hid (HU0.out.mod HU.out h6.only (fun g hg e => by omega))
      have HZ := Lib.hid (Tree.imp (G' := fun g => g < ab ∨ bb < g) (fun g hg _ => by rcases hg with h | h; exact .inl h; exact .inr (by omega)) _ _ _ hz)
      have HZW : Hid (vW 62 vz ≤ 490000000) := Lib.hid (Nat.le_trans hzw (by omega))
      have HZWD : Hid (Wide 12 62 vz) := Lib.hid hzwd
      have hkt : 8000 + 1 + 1000 * vW 60 va ≤ 100000000 := by omega
      clear HA HBB HYA HYB HT HP HU h6 htb hz hzw hzwd
      obtain ⟨zk, zf, zn, zw, zla, zln, zlc, zma, zmn, zmc⟩ := z
      have HBB := HB1
      have hyy := HBB.out
      have f0 := hyy.cell 0
      have f1 := hyy.cell 1
      have f2 := hyy.cell 2
      have f3 := hyy.cell 3
      have f4 := hyy.cell 4
      have f5 := hyy.cell 5
      have fl := hyy.lt
      have ff := hyy.frozen
      simp only [List.getElem?_toArray, List.getElem?_cons_zero, List.getElem?_cons_succ] at f0 f1 f2 f3 f4 f5
      clear hyy
      have hmo : Only bb w6 ((((((w6.setCell ⟨bb, 0, none⟩ (.int .i64 zk)).setCell ⟨bb, 1, none⟩ (.bool zf)).setCell ⟨bb, 2, none⟩ (.int .i64 zn)).setCell ⟨bb, 3, none⟩ (.string zw)).setCell ⟨bb, 4, none⟩ (.slice zla zln zlc)).setCell ⟨bb, 5, none⟩ (.slice zma zmn zmc)) := (((((Only.set (Mod.refl _ _) 0 _).set 1 _).set 2 _).set 3 _).set 4 _).set 5 _
      have HB2 := Lib.hid ((((((HB1.out.set 0 (.int .i64 zk)).set 1 (.bool zf)).set 2 (.int .i64 zn)).set 3 (.string zw)).set 4 (.slice zla zln zlc)).set 5 (.slice zma zmn zmc))
      simp only [Array.setIfInBounds, List.size_toArray, List.length_cons, List.length_nil, Nat.reduceAdd, Nat.reduceLT, ↓reduceDIte, List.set_toArray, List.set_cons_zero, List.set_cons_succ] at HB2
      have HA2 := Lib.hid (HA1.out.mod hmo (by omega))
      have HY2 := Lib.hid (Tree.imp (G' := fun _ => True) (fun _ _ _ => trivial) _ _ _ (Tree.mod hmo (fun g hg _ e => by omega) _ _ _ HY1.out))
      have HZ2 := Lib.hid (Tree.imp (G' := fun _ => True) (fun _ _ _ => trivial) _ _ _ (Tree.mod hmo (fun g hg _ e => by rcases hg with h | h <;> omega) _ _ _ HZ.out))
      have HT2 := Lib.hid (HT1.out.mod hmo (fun i e => by omega))
      have HP2 := Lib.hid (HT0.out.mod HP1.out hmo (fun g hg e => by omega))
      have HU2 := Lib.hid (HU0.out.mod HU1.out hmo (fun g hg e => by omega))
      clear hmo HA1 HY1 HZ HT1 HP1 HU1
      go_wp2_with fail
      go_meet
      case rel => exact ⟨⟨zk, zf, zn, zw, zla, zln, zlc, zma, zmn, zmc⟩, vz, HA2, HB2, HY2, HZ2, HZW, HZWD, HP2, HU2, Lib.hid (HT2.out.more (by omega))⟩
  case rest =>
    rename World => wz
    clear HA HBB HYA HYB HT HP HU HY60 HWB HWDB
    obtain ⟨y, vb2, HA, HBB, HYA, HYB, HWB, HWDB, HP, HU, HT⟩ := hcut
    obtain ⟨pk, pf, pn, pw, pla, pln, plc, pma, pmn, pmc⟩ := y
    have hfa : Fit 62 va := ⟨Nat.le_trans HWA.out (by omega), Wide.mono (by omega) _ _ HWDA.out⟩
    have hfb : Fit 62 vb2 := ⟨Nat.le_trans HWB.out (by omega), Wide.mono (by omega) _ _ HWDB.out⟩
    have hw2 : vW 62 va ≤ 200000 := Nat.le_trans HWA.out (by omega)
    have hcmp := fun W (h1 : Tree W (fun _ => True) 62 ⟨xk, xf, xn, xw, xla, xln, xlc, xma, xmn, xmc⟩ va) (h2 : Tree W (fun _ => True) 62 ⟨pk, pf, pn, pw, pla, pln, plc, pma, pmn, pmc⟩ vb2) (hu : Utf8T W) => valueCompare_v 62 _ _ va vb2 _ W h1 h2 hfa hfb hu
    have htx := fun W (h1 : Tree W (fun _ => True) (61 + 1) ⟨xk, xf, xn, xw, xla, xln, xlc, xma, xmn, xmc⟩ va) (hp : Pow10 W) (hu : Utf8T W) => text_v 61 _ va _ W h1 hfa hw2 hp hu
    have hvf := fun W (h1 : Tree W (fun _ => True) 62 ⟨xk, xf, xn, xw, xla, xln, xlc, xma, xmn, xmc⟩ va) (hu : Utf8T W) => valueFault_v 62 _ va _ W h1 hfa (by omega) hu
    have hck := fun W (h1 : Tree W (fun _ => True) 62 ⟨xk, xf, xn, xw, xla, xln, xlc, xma, xmn, xmc⟩ va) (hu : Utf8T W) => check_v 62 _ va _ W h1 hfa hu
    have hcf : vCheck 62 va = 0 → vFault 62 va = 0 := fun h => by
      unfold vCheck at h
      split at h
      · cases h
      · exact h
    have hwr := fun W (h1 : Tree W (fun _ => True) 62 ⟨xk, xf, xn, xw, xla, xln, xlc, xma, xmn, xmc⟩ va) (h0 : vCheck 62 va = 0) (hp : Pow10 W) => written_v 62 _ va _ W h1 hfa (hcf h0) hw2 hp
    have hvb := fun W (h1 : Tree W (fun _ => True) 62 ⟨pk, pf, pn, pw, pla, pln, plc, pma, pmn, pmc⟩ vb2) (hu : Utf8T W) => valueFault_v 62 _ vb2 _ W h1 hfb (by omega) hu
    have hor := fun W (h1 : Tree W (fun _ => True) 62 ⟨xk, xf, xn, xw, xla, xln, xlc, xma, xmn, xmc⟩ va) (h2 : Tree W (fun _ => True) 62 ⟨pk, pf, pn, pw, pla, pln, plc, pma, pmn, pmc⟩ vb2) => order_v 62 _ _ va vb2 _ W h1 h2 hfa hfb
    have hvt : ∀ l : List UInt8, (⟨l.toArray⟩ : ByteArray) = txtB l := fun _ => rfl
    simp only [Nat.reduceAdd, hvt] at htx
    clear hvt hcf hfa hfb hw2
    generalize txtB (vText 62 va) = TX at *
    generalize vCheck 62 va = FA at *
    generalize vCheck 62 vb2 = FB at *
    generalize vCmp 62 va vb2 = N at *
    obtain ⟨R1, hR1⟩ : ∃ R, (if orF FA FB ≠ 0 then 0 else N) = R := ⟨_, rfl⟩
    obtain ⟨RT, hRT⟩ : ∃ R, (if FA ≠ 0 then txtB [] else TX) = R := ⟨_, rfl⟩
    simp only [hR1] at hcmp
    simp only [hRT] at htx
    obtain ⟨OR, hOR⟩ : ∃ R, orF FA FB = R := ⟨_, rfl⟩
    rw [hOR] at hR1
    simp only [hOR] at hcmp
    have HR1 := Lib.hid hR1
    have HRT := Lib.hid hRT
    have HOR := Lib.hid hOR
    have HCM := Lib.hid hcmp
    have HTX := Lib.hid htx
    have HVF := Lib.hid hvf
    have HCK := Lib.hid hck
    have HWR := Lib.hid hwr
    have HVB := Lib.hid hvb
    have HORD := Lib.hid hor
    clear hR1 hRT hOR hcmp htx hvf hck hwr hvb hor
    have hxx := HA.out
    have e0 := hxx.cell 0
    have e1 := hxx.cell 1
    have e2 := hxx.cell 2
    have e3 := hxx.cell 3
    have e4 := hxx.cell 4
    have e5 := hxx.cell 5
    have el := hxx.lt
    simp only [List.getElem?_toArray, List.getElem?_cons_zero, List.getElem?_cons_succ] at e0 e1 e2 e3 e4 e5
    clear hxx
    have hyy := HBB.out
    have f0 := hyy.cell 0
    have f1 := hyy.cell 1
    have f2 := hyy.cell 2
    have f3 := hyy.cell 3
    have f4 := hyy.cell 4
    have f5 := hyy.cell 5
    have fl := hyy.lt
    have ff := hyy.frozen
    simp only [List.getElem?_toArray, List.getElem?_cons_zero, List.getElem?_cons_succ] at f0 f1 f2 f3 f4 f5
    clear hyy
    have q1 := HCM.out wz HYA.out HYB.out HU.out
    go_wp2_with fail
    refine q1.mono ?_
    clear q1
    rintro e w7 ⟨rfl, m7⟩
    clear e0 e1 e2 e3 e4 e5 el
    clear f0 f1 f2 f3 f4 f5 fl ff
    have HA1 := Lib.hid (HA.out.mod m7 (fun e => e))
    have HB1 := Lib.hid (HBB.out.mod m7 (fun e => e))
    have HY1 := Lib.hid (HYA.out.new m7)
    have HZ1 := Lib.hid (HYB.out.new m7)
    have HT1 := Lib.hid (HT.out.new m7)
    have HP1 := Lib.hid (HP.out.new m7)
    have HU1 := Lib.hid (HU.out.new m7)
    clear HA HBB HYA HYB HT HP HU
    have HA := HA1
    have HBB := HB1
    have HYA := HY1
    have HYB := HZ1
    have HT := HT1
    have HP := HP1
    have HU := HU1
    clear HA1 HB1 HY1 HZ1 HT1 HP1 HU1
    clear m7
    have hxx := HA.out
    have e0 := hxx.cell 0
    have e1 := hxx.cell 1
    have e2 := hxx.cell 2
    have e3 := hxx.cell 3
    have e4 := hxx.cell 4
    have e5 := hxx.cell 5
    have el := hxx.lt
    simp only [List.getElem?_toArray, List.getElem?_cons_zero, List.getElem?_cons_succ] at e0 e1 e2 e3 e4 e5
    clear hxx
    have q2 := HTX.out w7 HYA.out HP.out HU.out
    go_wp2_with fail
    refine q2.mono ?_
    clear q2
    rintro e w8 ⟨rfl, m8⟩
    clear e0 e1 e2 e3 e4 e5 el
    have HA1 := Lib.hid (HA.out.mod m8 (fun e => e))
    have HB1 := Lib.hid (HBB.out.mod m8 (fun e => e))
    have HY1 := Lib.hid (HYA.out.new m8)
    have HZ1 := Lib.hid (HYB.out.new m8)
    have HT1 := Lib.hid (HT.out.new m8)
    have HP1 := Lib.hid (HP.out.new m8)
    have HU1 := Lib.hid (HU.out.new m8)
    clear HA HBB HYA HYB HT HP HU
    have HA := HA1
    have HBB := HB1
    have HYA := HY1
    have HYB := HZ1
    have HT := HT1
    have HP := HP1
    have HU := HU1
    clear HA1 HB1 HY1 HZ1 HT1 HP1 HU1
    clear m8
    have hxx := HA.out
    have e0 := hxx.cell 0
    have e1 := hxx.cell 1
    have e2 := hxx.cell 2
    have e3 := hxx.cell 3
    have e4 := hxx.cell 4
    have e5 := hxx.cell 5
    have el := hxx.lt
    simp only [List.getElem?_toArray, List.getElem?_cons_zero, List.getElem?_cons_succ] at e0 e1 e2 e3 e4 e5
    clear hxx
    have q3 := HVF.out w8 HYA.out HU.out
    go_wp2_with fail
    refine q3.mono ?_
    clear q3
    rintro e w9 ⟨rfl, m9⟩
    clear e0 e1 e2 e3 e4 e5 el
    have HA1 := Lib.hid (HA.out.mod m9 (fun e => e))
    have HB1 := Lib.hid (HBB.out.mod m9 (fun e => e))
    have HY1 := Lib.hid (HYA.out.new m9)
    have HZ1 := Lib.hid (HYB.out.new m9)
    have HT1 := Lib.hid (HT.out.new m9)
    have HP1 := Lib.hid (HP.out.new m9)
    have HU1 := Lib.hid (HU.out.new m9)
    clear HA HBB HYA HYB HT HP HU
    have HA := HA1
    have HBB := HB1
    have HYA := HY1
    have HYB := HZ1
    have HT := HT1
    have HP := HP1
    have HU := HU1
    clear HA1 HB1 HY1 HZ1 HT1 HP1 HU1
    clear m9
    have hxx := HA.out
    have e0 := hxx.cell 0
    have e1 := hxx.cell 1
    have e2 := hxx.cell 2
    have e3 := hxx.cell 3
    have e4 := hxx.cell 4
    have e5 := hxx.cell 5
    have el := hxx.lt
    simp only [List.getElem?_toArray, List.getElem?_cons_zero, List.getElem?_cons_succ] at e0 e1 e2 e3 e4 e5
    clear hxx
    have q4 := HCK.out w9 HYA.out HU.out
    by_cases hFA : FA = 0
    · subst hFA
      have hRX : RT = TX := by rw [← HRT.out]; simp
      subst hRX
      go_wp2_with fail
      refine q4.mono ?_
      clear q4
      rintro e w10 ⟨rfl, m10⟩
      clear e0 e1 e2 e3 e4 e5 el
      have HA1 := Lib.hid (HA.out.mod m10 (fun e => e))
      have HB1 := Lib.hid (HBB.out.mod m10 (fun e => e))
      have HY1 := Lib.hid (HYA.out.new m10)
      have HZ1 := Lib.hid (HYB.out.new m10)
      have HT1 := Lib.hid (HT.out.new m10)
      have HP1 := Lib.hid (HP.out.new m10)
      have HU1 := Lib.hid (HU.out.new m10)
      clear HA HBB HYA HYB HT HP HU
      have HA := HA1
      have HBB := HB1
      have HYA := HY1
      have HYB := HZ1
      have HT := HT1
      have HP := HP1
      have HU := HU1
      clear HA1 HB1 HY1 HZ1 HT1 HP1 HU1
      clear m10
      have hxx := HA.out
      have e0 := hxx.cell 0
      have e1 := hxx.cell 1
      have e2 := hxx.cell 2
      have e3 := hxx.cell 3
      have e4 := hxx.cell 4
      have e5 := hxx.cell 5
      have el := hxx.lt
      simp only [List.getElem?_toArray, List.getElem?_cons_zero, List.getElem?_cons_succ] at e0 e1 e2 e3 e4 e5
      clear hxx
      have q5 := HWR.out w10 HYA.out (by first | trivial | rfl) HP.out
      go_wp2_with fail
      refine q5.mono ?_
      clear q5
      rintro e w11 ⟨rfl, m11⟩
      clear e0 e1 e2 e3 e4 e5 el
      have HA1 := Lib.hid (HA.out.mod m11 (fun e => e))
      have HB1 := Lib.hid (HBB.out.mod m11 (fun e => e))
      have HY1 := Lib.hid (HYA.out.new m11)
      have HZ1 := Lib.hid (HYB.out.new m11)
      have HT1 := Lib.hid (HT.out.new m11)
      have HP1 := Lib.hid (HP.out.new m11)
      have HU1 := Lib.hid (HU.out.new m11)
      clear HA HBB HYA HYB HT HP HU
      have HA := HA1
      have HBB := HB1
      have HYA := HY1
      have HYB := HZ1
      have HT := HT1
      have HP := HP1
      have HU := HU1
      clear HA1 HB1 HY1 HZ1 HT1 HP1 HU1
      clear m11
      have hyy := HBB.out
      have f0 := hyy.cell 0
      have f1 := hyy.cell 1
      have f2 := hyy.cell 2
      have f3 := hyy.cell 3
      have f4 := hyy.cell 4
      have f5 := hyy.cell 5
      have fl := hyy.lt
      have ff := hyy.frozen
      simp only [List.getElem?_toArray, List.getElem?_cons_zero, List.getElem?_cons_succ] at f0 f1 f2 f3 f4 f5
      clear hyy
      have q6 := HVB.out w11 HYB.out HU.out
      go_wp2_with fail
      refine q6.mono ?_
      clear q6
      rintro e w12 ⟨rfl, m12⟩
      clear f0 f1 f2 f3 f4 f5 fl ff
      have HA1 := Lib.hid (HA.out.mod m12 (fun e => e))
      have HB1 := Lib.hid (HBB.out.mod m12 (fun e => e))
      have HY1 := Lib.hid (HYA.out.new m12)
      have HZ1 := Lib.hid (HYB.out.new m12)
      have HT1 := Lib.hid (HT.out.new m12)
      have HP1 := Lib.hid (HP.out.new m12)
      have HU1 := Lib.hid (HU.out.new m12)
      clear HA HBB HYA HYB HT HP HU
      have HA := HA1
      have HBB := HB1
      have HYA := HY1
      have HYB := HZ1
      have HT := HT1
      have HP := HP1
      have HU := HU1
      clear HA1 HB1 HY1 HZ1 HT1 HP1 HU1
      clear m12
      have m13 : New w12 (w12.alloc (.cells #[.int .i64 0, .int .i64 FB] 33)) := (Mod.refl _ _).alloc _
      have b13 := Blk.new w12 33 #[.int .i64 0, .int .i64 FB]
      have q7 := or_two 0 FB w12.heap.size _ b13
      rw [HOR.out] at q7
      have HA1 := Lib.hid (HA.out.mod m13 (fun e => e))
      have HB1 := Lib.hid (HBB.out.mod m13 (fun e => e))
      have HY1 := Lib.hid (HYA.out.new m13)
      have HZ1 := Lib.hid (HYB.out.new m13)
      have HT1 := Lib.hid (HT.out.new m13)
      have HP1 := Lib.hid (HP.out.new m13)
      have HU1 := Lib.hid (HU.out.new m13)
      clear HA HBB HYA HYB HT HP HU
      have HA := HA1
      have HBB := HB1
      have HYA := HY1
      have HYB := HZ1
      have HT := HT1
      have HP := HP1
      have HU := HU1
      clear HA1 HB1 HY1 HZ1 HT1 HP1 HU1
      go_wp2_with fail
      refine q7.mono ?_
      clear q7
      rintro e w14 ⟨rfl, rfl⟩
      clear m13 b13
      generalize w12.alloc (.cells #[.int .i64 0, .int .i64 FB] 33) = w14 at *
      by_cases hO : OR = 0
      · subst hO
        have hRN : R1 = N := by rw [← HR1.out]; simp
        subst hRN
        have hxx := HA.out
        have e0 := hxx.cell 0
        have e1 := hxx.cell 1
        have e2 := hxx.cell 2
        have e3 := hxx.cell 3
        have e4 := hxx.cell 4
        have e5 := hxx.cell 5
        have el := hxx.lt
        simp only [List.getElem?_toArray, List.getElem?_cons_zero, List.getElem?_cons_succ] at e0 e1 e2 e3 e4 e5
        clear hxx
        have hyy := HBB.out
        have f0 := hyy.cell 0
        have f1 := hyy.cell 1
        have f2 := hyy.cell 2
        have f3 := hyy.cell 3
        have f4 := hyy.cell 4
        have f5 := hyy.cell 5
        have fl := hyy.lt
        have ff := hyy.frozen
        simp only [List.getElem?_toArray, List.getElem?_cons_zero, List.getElem?_cons_succ] at f0 f1 f2 f3 f4 f5
        clear hyy
        have q8 := HORD.out w14 HYA.out HYB.out
        go_wp2_with fail
        refine q8.mono ?_
        clear q8
        rintro e w15 ⟨rfl, m15⟩
        clear e0 e1 e2 e3 e4 e5 el
        clear f0 f1 f2 f3 f4 f5 fl ff
        have HA1 := Lib.hid (HA.out.mod m15 (fun e => e))
        have HB1 := Lib.hid (HBB.out.mod m15 (fun e => e))
        have HY1 := Lib.hid (HYA.out.new m15)
        have HZ1 := Lib.hid (HYB.out.new m15)
        have HT1 := Lib.hid (HT.out.new m15)
        have HP1 := Lib.hid (HP.out.new m15)
        have HU1 := Lib.hid (HU.out.new m15)
        clear HA HBB HYA HYB HT HP HU
        have HA := HA1
        have HBB := HB1
        have HYA := HY1
        have HYB := HZ1
        have HT := HT1
        have HP := HP1
        have HU := HU1
        clear HA1 HB1 HY1 HZ1 HT1 HP1 HU1
        clear m15
        have q9 := valued_v w15 HP.out HU.out
        go_wp2_with fail
        refine q9.mono ?_
        clear q9
        rintro e w16 ⟨rfl, m16⟩
        go_wp2_with fail
        go_ret
        exact ⟨rfl, HN.out _ _ (HT.out.new m16)⟩
      · have hOb : (OR != 0) = true := by simpa using hO
        have hR0 : R1 = 0 := by rw [← HR1.out, if_pos hO]
        subst hR0
        clear hO
        have q9 := valued_v w14 HP.out HU.out
        go_wp2_with fail
        refine q9.mono ?_
        clear q9
        rintro e w16 ⟨rfl, m16⟩
        go_wp2_with fail
        go_ret
        exact ⟨rfl, HN.out _ _ (HT.out.new m16)⟩
    · have hFb : (FA == 0) = false := by simpa using hFA
      have hOF : OR = FA := by rw [← HOR.out, orF, if_pos hFA]
      subst hOF
      have hOb : (OR != 0) = true := by simpa using hFA
      have hR0 : R1 = 0 := by rw [← HR1.out, if_pos hFA]
      subst hR0
      clear hFA
      go_wp2_with fail
      refine q4.mono ?_
      clear q4
      rintro e w10 ⟨rfl, m10⟩
      clear e0 e1 e2 e3 e4 e5 el
      have HA1 := Lib.hid (HA.out.mod m10 (fun e => e))
      have HB1 := Lib.hid (HBB.out.mod m10 (fun e => e))
      have HY1 := Lib.hid (HYA.out.new m10)
      have HZ1 := Lib.hid (HYB.out.new m10)
      have HT1 := Lib.hid (HT.out.new m10)
      have HP1 := Lib.hid (HP.out.new m10)
      have HU1 := Lib.hid (HU.out.new m10)
      clear HA HBB HYA HYB HT HP HU
      have HA := HA1
      have HBB := HB1
      have HYA := HY1
      have HYB := HZ1
      have HT := HT1
      have HP := HP1
      have HU := HU1
      clear HA1 HB1 HY1 HZ1 HT1 HP1 HU1
      clear m10
      have hyy := HBB.out
      have f0 := hyy.cell 0
      have f1 := hyy.cell 1
      have f2 := hyy.cell 2
      have f3 := hyy.cell 3
      have f4 := hyy.cell 4
      have f5 := hyy.cell 5
      have fl := hyy.lt
      have ff := hyy.frozen
      simp only [List.getElem?_toArray, List.getElem?_cons_zero, List.getElem?_cons_succ] at f0 f1 f2 f3 f4 f5
      clear hyy
      have q6 := HVB.out w10 HYB.out HU.out
      go_wp2_with fail
      refine q6.mono ?_
      clear q6
      rintro e w12 ⟨rfl, m12⟩
      clear f0 f1 f2 f3 f4 f5 fl ff
      have HA1 := Lib.hid (HA.out.mod m12 (fun e => e))
      have HB1 := Lib.hid (HBB.out.mod m12 (fun e => e))
      have HY1 := Lib.hid (HYA.out.new m12)
      have HZ1 := Lib.hid (HYB.out.new m12)
      have HT1 := Lib.hid (HT.out.new m12)
      have HP1 := Lib.hid (HP.out.new m12)
      have HU1 := Lib.hid (HU.out.new m12)
      clear HA HBB HYA HYB HT HP HU
      have HA := HA1
      have HBB := HB1
      have HYA := HY1
      have HYB := HZ1
      have HT := HT1
      have HP := HP1
      have HU := HU1
      clear HA1 HB1 HY1 HZ1 HT1 HP1 HU1
      clear m12
      have m13 : New w12 (w12.alloc (.cells #[.int .i64 OR, .int .i64 FB] 33)) := (Mod.refl _ _).alloc _
      have b13 := Blk.new w12 33 #[.int .i64 OR, .int .i64 FB]
      have q7 := or_two OR FB w12.heap.size _ b13
      rw [HOR.out] at q7
      have HA1 := Lib.hid (HA.out.mod m13 (fun e => e))
      have HB1 := Lib.hid (HBB.out.mod m13 (fun e => e))
      have HY1 := Lib.hid (HYA.out.new m13)
      have HZ1 := Lib.hid (HYB.out.new m13)
      have HT1 := Lib.hid (HT.out.new m13)
      have HP1 := Lib.hid (HP.out.new m13)
      have HU1 := Lib.hid (HU.out.new m13)
      clear HA HBB HYA HYB HT HP HU
      have HA := HA1
      have HBB := HB1
      have HYA := HY1
      have HYB := HZ1
      have HT := HT1
      have HP := HP1
      have HU := HU1
      clear HA1 HB1 HY1 HZ1 HT1 HP1 HU1
      go_wp2_with fail
      refine q7.mono ?_
      clear q7
      rintro e w14 ⟨rfl, rfl⟩
      clear m13 b13
      generalize w12.alloc (.cells #[.int .i64 OR, .int .i64 FB] 33) = w14 at *
      have q9 := valued_v w14 HP.out HU.out
      go_wp2_with fail
      refine q9.mono ?_
      clear q9
      rintro e w16 ⟨rfl, m16⟩
      go_wp2_with fail
      go_ret
      exact ⟨rfl, HN.out _ _ (HT.out.new m16)⟩

end Go.Proofs.YtjnbjianfbfdaaaDoor
