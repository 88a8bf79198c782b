/- The law TemplatesRead, walked. Conditions: the argument is a slice of ints that can be read; the library's variables lie as they should. -/
import Derived.Test.YtjehlecgnepgmaaGreatDoorTplT4
import Derived.Test.YtjehlecgnepgmaaGreatDoorTplM2
import Derived.Test.YtjehlecgnepgmaaGreatDoorTplE
import Derived.Test.YtjehlecgnepgmaaGreatDoorTpl0
import Derived.Test.YtjehlecgnepgmaaGreatDoorLaw
namespace Go.Proofs.YtjehlecgnepgmaaGreatDoor
open Go.RowKit
set_option linter.unusedVariables false
set_option linter.unusedSimpArgs false

set_option maxRecDepth 100000 in
set_option maxHeartbeats 1000000 in
theorem tpls_walk (A : Option Addr) (n c : Nat) (w : World) (h : InInts w A n) (hX0 : MaxLn w) :
    Calls Tryz.prog 3 #[.slice A n c] w fun e w' => e = .returned (.bool true) ∧ New w w' := by
  have hs := SInv.start (c := c) h
  go_enter Tryz.func3, Tryz.ntmps3
  go_wp2_with fail
  have T0 := SStep.refl hs
  have hA : New w (w.alloc (.cells #[.slice A n c, .int .i64 0] 25)) := (Mod.refl _ _).alloc _
  have HXA := Lib.hid (hX0.new hA)
  have HX0 := Lib.hid hX0
  clear hX0
  generalize hW0 : w.alloc (.cells #[.slice A n c, .int .i64 0] 25) = W0 at *
  have hW0s : W0.heap.size = w.heap.size + 1 := by rw [← hW0]; simp
  have hnews : ∀ w' k, SStep w.heap.size W0 w' k → New w w' := fun w' k hh => by rw [← hW0] at hh; exact hh.news
  have HN := Lib.hid hnews
  have HW0 := Lib.hid hW0s
  clear hnews hW0 hA hW0s
  refine (template_any _ _ _ hs (by omega)).mono ?_
  rintro e w1 ⟨t, rfl, htz, h1⟩
  have T1 := T0.trans h1
  have HX1 := Lib.hid (HX0.out.mod HXA.out h1.only (fun g hg e => by omega))
  clear T0 h1 HXA hs
  go_wp2_with fail
  refine (parts_any w.heap.size _ w1 T1.inv (by omega)).mono ?_
  rintro e w2 ⟨Ap, np, cp, ps, rfl, hps, hnc, hn3, htiny, h2⟩
  have T2 := T1.trans h2
  have HX2 := Lib.hid (HX0.out.mod HX1.out h2.only (fun g hg e => by omega))
  have HPS := Lib.hid hps
  have hmild : PMild ps := fun p hp => by have := htiny p hp; omega
  have HMI := Lib.hid hmild
  clear T1 h2 HX1 hps htiny hmild
  have hpt := route_parseTemplate t w2 (by omega) HX2.out
  have hrt := fun W (m : New w2 W) => ref_templateOf t W (by omega) (HX2.out.new m)
  have HRT := Lib.hid hrt
  clear hrt
  generalize tplOf t = q at *
  obtain ⟨q1, q2⟩ := q
  go_wp2_with fail
  refine hpt.mono ?_
  clear hpt
  rintro e w3 ⟨A3, n3, c3, rfl, hp3, m3, hl3⟩
  have T3 := T2.new m3
  have HX3 := Lib.hid (HX2.out.new m3)
  have HP3 := Lib.hid hp3
  have HPS3 := Lib.hid (HPS.out.new m3)
  have hrt := HRT.out w3 m3
  clear T2 m3 HPS hp3 HRT
  simp only
  go_wp2_with fail
  refine hrt.mono ?_
  clear hrt
  rintro e w4 ⟨A4, n4, c4, rfl, hp4, m4, hl4⟩
  have T4 := T3.new m4
  have HX4 := Lib.hid (HX3.out.new m4)
  have hp3 := HP3.out.new m4
  have HPS4 := Lib.hid (HPS3.out.new m4)
  have hn : n3 = n4 := hp3.1.symm.trans hp4.1
  subst hn
  have heq := equal_parts q2 A3 A4 n3 c3 c4 w4 hp3 hp4 (by omega)
  have hqq : ((q1 : Int) != q1) = false := by simp
  clear T3 m4 HPS3 hp3 hp4 HP3 HX2 HX3
  simp only
  go_wp2_with fail
  refine heq.mono ?_
  clear heq
  rintro e w5 ⟨rfl, m5⟩
  have T5 := T4.new m5
  have HX5 := Lib.hid (HX4.out.new m5)
  have HPS5 := Lib.hid (HPS4.out.new m5)
  have htt := route_templateText Ap np cp ps w5 HPS5.out hnc (by omega) HMI.out
  have hrf := fun W (m : New w5 W) => ref_templateFrom Ap np cp ps W (HPS5.out.new m) hnc (by omega) HMI.out
  have HRF := Lib.hid hrf
  clear T4 m5 HPS4 HX4 hrf hqq
  generalize templateText ps = z at *
  obtain ⟨z1, z2⟩ := z
  go_wp2_with fail
  refine htt.mono ?_
  clear htt
  rintro e w6 ⟨rfl, m6⟩
  have T6 := T5.new m6
  have HX6 := Lib.hid (HX5.out.new m6)
  have hrf := HRF.out w6 m6
  clear T5 m6 HX5 HRF
  simp only
  go_wp2_with fail
  refine hrf.mono ?_
  clear hrf
  rintro e w7 ⟨rfl, m7⟩
  have T7 := T6.new m7
  have HX7 := Lib.hid (HX6.out.new m7)
  have hzz : ((z1 : Int) == z1) = true := by simp
  simp only
  generalize (⟨z2.toArray⟩ : ByteArray) = X at *
  have hxx : (X.toList == X.toList) = true := by simp
  clear T6 m7 HX6
  go_wp2_with fail
  refine (routed_true _ HX7.out).mono ?_
  rintro e w8 ⟨rfl, m8⟩
  go_wp2_with fail
  go_ret
  exact ⟨rfl, HN.out _ _ (T7.new m8)⟩

end Go.Proofs.YtjehlecgnepgmaaGreatDoor
