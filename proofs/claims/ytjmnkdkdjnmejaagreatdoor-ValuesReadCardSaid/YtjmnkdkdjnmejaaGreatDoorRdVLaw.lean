/- The law ValuesRead, walked. Conditions: the argument is a slice of ints that can be read; the library's tables lie as they should. -/
import Derived.Test.YtjmnkdkdjnmejaaGreatDoorSameGrp
import Derived.Test.YtjmnkdkdjnmejaaGreatDoorValWMGrp
import Derived.Test.YtjmnkdkdjnmejaaGreatDoorRvReadGrp
import Derived.Test.YtjmnkdkdjnmejaaGreatDoorRrRead
namespace Go.Proofs.YtjmnkdkdjnmejaaGreatDoor
open Go.RowKit
set_option linter.unusedVariables false
set_option linter.unusedSimpArgs false
set_option maxRecDepth 100000 in
set_option maxHeartbeats 2000000 in
theorem valuesRead_walk (A : Option Addr) (n c : Nat) (w : World) (h : InInts w A n) (hT0 : Pow10 w) (hU0 : Utf8T w) :
    Calls Tryz.prog 3 #[.slice A n c] w fun e w' => e = .returned (.bool true) ∧ New w w' := by
  have hs := SInv.start (c := c) h
  have hA : New w (w.alloc (.cells #[.slice A n c, .int .i64 0] 25)) := (Mod.refl _ _).alloc _
  have HTA := hT0.new hA
  have hvs := valueString_any w.heap.size 0 _ w hs (by omega) hT0 (Nat.le_refl _) HTA
  clear hA HTA
  go_enter Tryz.func3, Tryz.ntmps3
  go_wp2_with fail
  refine hvs.mono ?_
  clear hvs
  rintro e w1 ⟨t, rfl, ht, hst⟩
  have hn1 : New w w1 := hst.news
  have hrd := value_read t w1 ht (hU0.new hn1)
  clear hst
  go_wp2_with fail
  refine hrd.mono ?_
  clear hrd
  rintro e w2 ⟨hn2, x, v, p, f, rfl, hr1, ht1, hf1⟩
  have hn2' := hn1.trans hn2
  obtain ⟨xk, xf, xn, xw, xla, xln, xlc, xma, xmn, xmc⟩ := x
  have ma : New w2 (w2.alloc (.cells #[.int .i64 xk, .bool xf, .int .i64 xn, .string xw, .slice xla xln xlc, .slice xma xmn xmc] 30)) := (Mod.refl _ _).alloc _
  have hbx := Blk.new w2 30 #[.int .i64 xk, .bool xf, .int .i64 xn, .string xw, .slice xla xln xlc, .slice xma xmn xmc]
  have hn3 := hn2'.trans ma
  have hvr := ref_valueRead t _ ht (hU0.new hn3) (hT0.new hn3)
  have HT1 := hId (ht1.new ma)
  have HBX := hId hbx
  have HN3 := hId hn3
  have HR1 := hId hr1
  have HF1 := hId hf1
  clear ht1 ma hbx hn3 hr1 hf1 hn2 hn2' hn1
  go_wp2_with fail
  generalize w2.alloc (.cells #[.int .i64 xk, .bool xf, .int .i64 xn, .string xw, .slice xla xln xlc, .slice xma xmn xmc] 30) = w3 at *
  generalize w2.heap.size = bx at *
  refine hvr.mono ?_
  clear hvr
  rintro e w4 ⟨hn4, y, u, p', f', rfl, hr2, ht2, hf2⟩
  obtain ⟨rfl, rfl, rfl⟩ := HR1.out.same hr2
  obtain ⟨yk, yf, yn, yw, yla, yln, ylc, yma, ymn, ymc⟩ := y
  have mb : New w4 (w4.alloc (.cells #[.int .i64 yk, .bool yf, .int .i64 yn, .string yw, .slice yla yln ylc, .slice yma ymn ymc] 30)) := (Mod.refl _ _).alloc _
  have hby := Blk.new w4 30 #[.int .i64 yk, .bool yf, .int .i64 yn, .string yw, .slice yla yln ylc, .slice yma ymn ymc]
  have hm5 := hn4.trans mb
  have hbx5 := HBX.out.mod hm5 (fun e => e)
  have hsm := same_v 240001 _ _ v v _ _ (HT1.out.new hm5) (ht2.new mb) HF1.out hf2
  have hn5 := HN3.out.trans hm5
  rw [(eqV_iff v v).2 rfl] at hsm
  have e0 := hbx5.cell 0
  have e1 := hbx5.cell 1
  have e2 := hbx5.cell 2
  have e3 := hbx5.cell 3
  have e4 := hbx5.cell 4
  have e5 := hbx5.cell 5
  have el := hbx5.lt
  have f0 := hby.cell 0
  have f1 := hby.cell 1
  have f2 := hby.cell 2
  have f3 := hby.cell 3
  have f4 := hby.cell 4
  have f5 := hby.cell 5
  have fl := hby.lt
  simp only [lqt, lqz, lqs] at e0 e1 e2 e3 e4 e5 f0 f1 f2 f3 f4 f5
  have HN5 := hId hn5
  clear hn4 hr2 ht2 hf2 mb hby hm5 hbx5 hn5 HBX HN3 HT1 HR1 HF1
  go_upto_region 5 with (fail)
  generalize w4.alloc (.cells #[.int .i64 yk, .bool yf, .int .i64 yn, .string yw, .slice yla yln ylc, .slice yma ymn ymc] 30) = w5 at *
  generalize w4.heap.size = by_ at *
  go_wp2_with fail
  refine hsm.mono ?_
  clear hsm
  rintro e w6 ⟨rfl, hn6⟩
  have hn7 := HN5.out.trans hn6
  have hvd := valued_v w6 (hT0.new hn7) (hU0.new hn7)
  have HN7 := hId hn7
  clear hn6 hn7
  go_wp2_with fail
  refine hvd.mono ?_
  clear hvd
  rintro e w7 ⟨rfl, hn8⟩
  have HN8 := hId (HN7.out.trans hn8)
  clear hn8
  go_wp2_with fail
  go_ret
  exact ⟨rfl, HN8.out⟩
end Go.Proofs.YtjmnkdkdjnmejaaGreatDoor
