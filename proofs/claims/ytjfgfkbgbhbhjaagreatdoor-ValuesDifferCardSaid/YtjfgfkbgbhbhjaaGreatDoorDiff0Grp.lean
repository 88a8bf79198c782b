/- Several texts in one. (1) The law ValuesDiffer: what it needs beside the walks. Conditions: the library's tables lie as they should. (2) The law ValuesDiffer, walked. Conditions: the argument is a slice of ints that can be read; the library's tables lie as they should. -/
import Derived.Test.YtjfgfkbgbhbhjaaGreatDoorValV
import Derived.Test.YtjfgfkbgbhbhjaaGreatDoorValPC
import Derived.Test.YtjfgfkbgbhbhjaaGreatDoorSame
import Derived.Test.YtjfgfkbgbhbhjaaGreatDoorVal7Grp
import Derived.Test.YtjfgfkbgbhbhjaaGreatDoorDContGrp
import Derived.Test.YtjfgfkbgbhbhjaaGreatDoorDMgGrp
import Derived.Test.YtjfgfkbgbhbhjaaGreatDoorDRefMGrp
import Derived.Test.YtjfgfkbgbhbhjaaGreatDoorEqStpGrp
import Derived.Test.YtjfgfkbgbhbhjaaGreatDoorDMgOf
import Derived.Test.YtjfgfkbgbhbhjaaGreatDoorDifLawGrp

namespace Go.Proofs.YtjfgfkbgbhbhjaaGreatDoor
open Go.RowKit
set_option linter.unusedVariables false
set_option linter.unusedSimpArgs false

def InInts (w : World) (A : Option Addr) (n : Nat) : Prop :=
  n ≤ maxLen ∧ (0 < n → ∃ g o, A = some ⟨g, o, none⟩ ∧ g < w.heap.size ∧ ∃ z : Nat → Int, ∀ i, i < n → w.cell? ⟨g, o + i, none⟩ = some (.int .i64 (z i)) ∧ I64 (z i))

theorem SInv.start {w : World} {A : Option Addr} {n c : Nat} (h : InInts w A n) : SInv w.heap.size (w.alloc (.cells #[.slice A n c, .int .i64 0] 25)) 0 := by
  rcases Nat.eq_zero_or_pos n with rfl | hn
  · exact ⟨A, 0, c, 0, fun _ => 0, Blk.new _ _ _, by omega, by unfold maxLen; omega, fun h => absurd h (by omega)⟩
  · obtain ⟨g, o, hA, hg, z, hz⟩ := h.2 hn
    refine ⟨A, n, c, 0, z, Blk.new _ _ _, by omega, h.1, fun _ => ⟨g, o, hA, hg, fun i hi => ⟨?_, (hz i hi).2⟩⟩⟩
    rw [← (hz i hi).1]
    exact World.cell?_alloc_lt w _ _ hg

/-- what the stream does is nothing to the caller's memory -/
theorem SStep.news {w w' : World} {o : Obj} {k : Nat} (h : SStep w.heap.size (w.alloc o) w' k) : New w w' :=
  ((Mod.refl (fun _ => False) w).alloc o).step h.only (fun i hi e => by omega)


def nullV : VT := .mk 4 false 0 ⟨#[]⟩ [.mk 0 false 0 ⟨#[]⟩ [] []] []
theorem nullV_check : vCheck 2 nullV = 0 := by kernel_rfl
theorem nullV_text : vText 2 nullV = [91, 110, 117, 108, 108, 93] := by kernel_rfl
theorem nullV_w : vW 2 nullV ≤ 1000 := by decide
theorem nullV_fit : Fit 2 nullV := by
  refine ⟨Nat.le_trans nullV_w (by omega), by show 1 ≤ 1000; omega, Nat.zero_le _, by show (⟨#[]⟩ : ByteArray).size ≤ 100000; decide, fun z hz => ?_, fun z hz => by simp [nullV, VT.mem] at hz⟩
  have : z = .mk 0 false 0 ⟨#[]⟩ [] [] := by simpa [nullV, VT.list] using hz
  subst this
  exact leaf_wide0 0 1000 0
set_option maxRecDepth 100000 in
set_option maxHeartbeats 1000000 in
theorem valued_v (w : World) (hP : Pow10 w) (hU : Utf8T w) : Calls Tryz.prog 12 #[] w fun e w' => e = .returned (.bool true) ∧ New w w' := by
  have m1 : New w (w.alloc (.cells #[.int .i64 0, .bool false, .int .i64 0, .string ⟨#[]⟩, .slice none 0 0, .slice none 0 0] 29)) := (Mod.refl _ _).alloc _
  have bk := Blk.new w 29 #[.int .i64 0, .bool false, .int .i64 0, .string ⟨#[]⟩, .slice none 0 0, .slice none 0 0]
  have hown : Own (w.alloc (.cells #[.int .i64 0, .bool false, .int .i64 0, .string ⟨#[]⟩, .slice none 0 0, .slice none 0 0] 29)) w.heap.size 29 6 VA.enc (some ⟨w.heap.size, 0, none⟩) 1 1 [(⟨0, false, 0, ⟨#[]⟩, none, 0, 0, none, 0, 0⟩ : VA)] := Own.of_blk (xs := [(⟨0, false, 0, ⟨#[]⟩, none, 0, 0, none, 0, 0⟩ : VA)]) bk (Nat.le_refl _) rfl (by omega)
  have hks : Kids (TrV 1) 29 6 VA.enc (w.alloc (.cells #[.int .i64 0, .bool false, .int .i64 0, .string ⟨#[]⟩, .slice none 0 0, .slice none 0 0] 29)) w.heap.size (fun _ => True) (some ⟨w.heap.size, 0, none⟩) 1 1 [(⟨0, false, 0, ⟨#[]⟩, none, 0, 0, none, 0, 0⟩ : VA)] [VT.mk 0 false 0 ⟨#[]⟩ [] []] := ⟨hown, rfl, fun i h h' => by
    simp only [List.length_cons, List.length_nil] at h
    obtain rfl : i = 0 := by omega
    exact leaf_tree _ _ 0 0 false 0 ⟨#[]⟩⟩
  have hty : Tree (w.alloc (.cells #[.int .i64 0, .bool false, .int .i64 0, .string ⟨#[]⟩, .slice none 0 0, .slice none 0 0] 29)) (fun _ => True) (1 + 1) ⟨4, false, 0, ⟨#[]⟩, some ⟨w.heap.size, 0, none⟩, 1, 1, none, 0, 0⟩ nullV := Tree.of_kids hks (B' := 0) (G2 := fun _ => True) Kids.nil (fun _ _ _ => trivial) (fun _ _ _ => trivial) (fun _ _ => trivial) (fun _ _ => trivial)
  have htx := text_v 1 ⟨4, false, 0, ⟨#[]⟩, some ⟨w.heap.size, 0, none⟩, 1, 1, none, 0, 0⟩ nullV (fun _ => True) _ hty nullV_fit (Nat.le_trans nullV_w (by omega)) (hP.new m1) (hU.new m1)
  have hc : vCheck (1 + 1) nullV = 0 := nullV_check
  have ht : vText (1 + 1) nullV = [91, 110, 117, 108, 108, 93] := nullV_text
  rw [hc, ht, if_neg (by simp)] at htx
  have HM1 := Lib.hid m1
  clear hty hks hown bk m1 hc ht
  go_enter Tryz.func12, Tryz.ntmps12
  go_wp2_with fail
  refine htx.mono ?_
  clear htx
  rintro e w2 ⟨rfl, m2⟩
  have hte : ((⟨[91, 110, 117, 108, 108, 93].toArray⟩ : ByteArray).toList == [91, 110, 117, 108, 108, 93]) = true := by
    rw [ByteArray.toList_eq]; rfl
  go_wp2_with fail
  go_ret
  exact ⟨rfl, HM1.out.trans m2⟩


end Go.Proofs.YtjfgfkbgbhbhjaaGreatDoor

namespace Go.Proofs.YtjfgfkbgbhbhjaaGreatDoor
open Go.RowKit
set_option linter.unusedVariables false
set_option linter.unusedSimpArgs false

theorem ValAt.stream {w w' : World} {G : Nat → Prop} {W m b k : Nat} {x : VA} (h : ValAt w G W m x) (hs : SStep b w w' k) (hb : TB w b 25) : ValAt w' G W m x := by
  obtain ⟨v, h1, h2, h3⟩ := h
  exact ⟨v, h1.stream hs hb, h2, h3⟩
theorem nilV_fit (d : Nat) : Fit (d + 1) nilV := by
  refine ⟨?_, Nat.zero_le _, Nat.zero_le _, by show (⟨#[]⟩ : ByteArray).size ≤ 100000; decide, fun x hx => by simp [nilV, VT.list] at hx, fun x hx => by simp [nilV, VT.mem] at hx⟩
  have : vW (d + 1) nilV = 40 := rfl
  omega
/-- what the two values keep, where nothing is wrong with them -/
structure Both (a b : VT) : Prop where
  ga : Good 62 a
  gb : Good 62 b
  fm : Fit 62 (mrgP 62 a b)
  ln : (difF 62 a b []).length ≤ 400000
  ok : ∀ o ∈ difF 62 a b [], Fit 62 o.val ∧ o.path.length ≤ 1000000
theorem Both.of {a b : VT} (ha : Deep 62 a) (hb : Deep 62 b) (hc : orF (vCheck 62 a) (vCheck 62 b) = 0) (wa : vW 62 a ≤ 70000) (wb : vW 62 b ≤ 490000000) (da : Wide 12 62 a) (db : Wide 12 62 b) : Both a b := by
  obtain ⟨ca, cb⟩ := orF_eq_zero hc
  have ga := Good.of 62 a ha (vCheck_fault ca)
  have gb := Good.of 62 b hb (vCheck_fault cb)
  refine ⟨ga, gb, mrg_fit (m1 := 12) (m2 := 12) ha hb da db (Good.ownM 62 b gb) (by omega) (by omega), ?_, fun o ho => ?_⟩
  · have h1 := dif_many 62 a b [] ha hb
    have h2 := check_many ca
    have h3 := check_many cb
    omega
  · obtain ⟨h1, -, h2⟩ := dif_ok (m := 12) (W := 490000000) 62 a b [] hb db wb o ho
    simp only [List.length_nil] at h1
    refine ⟨?_, by omega⟩
    rcases h2 with h2 | ⟨-, h4, h5⟩
    · rw [h2]; exact nilV_fit 61
    · exact ⟨by omega, Wide.mono (by omega) _ _ h4⟩

set_option maxRecDepth 100000 in
set_option maxHeartbeats 2000000 in
theorem differ_walk (A : Option Addr) (n c : Nat) (w : World) (h : InInts w A n) (hT0 : Pow10 w) (hU0 : Utf8T w) :
    Calls Tryz.prog 3 #[.slice A n c] w fun e w' => e = .returned (.bool true) ∧ New w w' := by
  have hs := SInv.start (c := c) h
  have hA : New w (w.alloc (.cells #[.slice A n c, .int .i64 0] 25)) := (Mod.refl _ _).alloc _
  have HTA := Lib.hid (hT0.new hA)
  have HUA := Lib.hid (hU0.new hA)
  have HT0 := Lib.hid hT0
  have HU0 := Lib.hid hU0
  have hv3 := stream_val 3 (by omega) w.heap.size 0 _ hs (by omega)
  go_enter Tryz.func3, Tryz.ntmps3
  go_wp2_with fail
  refine hv3.mono ?_
  clear hv3
  rintro e w1 ⟨x, rfl, hax, h1⟩
  have hv2 := stream_val 2 (by omega) w.heap.size _ w1 h1.inv (by omega)
  go_wp2_with fail
  refine hv2.mono ?_
  clear hv2
  rintro e w2 ⟨y, rfl, hby, h2⟩
  have hax2 := hax.stream h2 h1.inv.tb
  have T2 := h1.trans h2
  have HP2 := Lib.hid (HT0.out.mod HTA.out T2.only (fun g hg e => by omega))
  have HU2 := Lib.hid (HU0.out.mod HUA.out T2.only (fun g hg e => by omega))
  generalize hW0 : w.alloc (.cells #[.slice A n c, .int .i64 0] 25) = W0 at *
  have hnews : ∀ w' k, SStep w.heap.size W0 w' k → New w w' := fun w' k hh => by rw [← hW0] at hh; exact hh.news
  have HN := Lib.hid hnews
  have hzW : W0.heap.size = w.heap.size + 1 := by rw [← hW0]; simp
  have hz2 : W0.heap.size ≤ w2.heap.size := T2.only.size
  generalize hsb : w.heap.size = sb at *
  obtain ⟨va, a1, a2, a3⟩ := hax2
  obtain ⟨vb, b1, b2, b3⟩ := hby
  clear hnews hW0 hs hA h1 h2 hax h hT0 hU0 HTA HUA
  obtain ⟨xk, xf, xn, xw, xla, xln, xlc, xma, xmn, xmc⟩ := x
  obtain ⟨yk, yf, yn, yw, yla, yln, ylc, yma, ymn, ymc⟩ := y
  have bA := Blk.new w2 29 #[.int .i64 xk, .bool xf, .int .i64 xn, .string xw, .slice xla xln xlc, .slice xma xmn xmc]
  have mA : New w2 (w2.alloc (.cells #[.int .i64 xk, .bool xf, .int .i64 xn, .string xw, .slice xla xln xlc, .slice xma xmn xmc] 29)) := (Mod.refl _ _).alloc _
  have bB := Blk.new (w2.alloc (.cells #[.int .i64 xk, .bool xf, .int .i64 xn, .string xw, .slice xla xln xlc, .slice xma xmn xmc] 29)) 29 #[.int .i64 yk, .bool yf, .int .i64 yn, .string yw, .slice yla yln ylc, .slice yma ymn ymc]
  have mB : New (w2.alloc (.cells #[.int .i64 xk, .bool xf, .int .i64 xn, .string xw, .slice xla xln xlc, .slice xma xmn xmc] 29)) ((w2.alloc (.cells #[.int .i64 xk, .bool xf, .int .i64 xn, .string xw, .slice xla xln xlc, .slice xma xmn xmc] 29)).alloc (.cells #[.int .i64 yk, .bool yf, .int .i64 yn, .string yw, .slice yla yln ylc, .slice yma ymn ymc] 29)) := (Mod.refl _ _).alloc _
  have hzA : (w2.alloc (.cells #[.int .i64 xk, .bool xf, .int .i64 xn, .string xw, .slice xla xln xlc, .slice xma xmn xmc] 29)).heap.size = w2.heap.size + 1 := by simp
  rw [hzA] at bB
  go_upto_region 3 with (fail)
  have a4 := Tree.imp (G' := fun g => g < w2.heap.size) (fun g _ hl => hl) _ _ _ a1
  have b4 := Tree.imp (G' := fun g => g < w2.heap.size) (fun g _ hl => hl) _ _ _ b1
  generalize w2.alloc (.cells #[.int .i64 xk, .bool xf, .int .i64 xn, .string xw, .slice xla xln xlc, .slice xma xmn xmc] 29) = w3 at *
  generalize w3.alloc (.cells #[.int .i64 yk, .bool yf, .int .i64 yn, .string yw, .slice yla yln ylc, .slice yma ymn ymc] 29) = w4 at *
  obtain ⟨la1, la2, la3⟩ := a4.lift a3 (show 60 ≤ 62 by omega)
  obtain ⟨lb1, lb2, lb3⟩ := b4.lift b3 (show 60 ≤ 62 by omega)
  have HA := Lib.hid (bA.mod mB (fun e => e))
  have HBB := Lib.hid bB
  have HT := Lib.hid ((T2.new mA).new mB)
  have HP := Lib.hid ((HP2.out.new mA).new mB)
  have HU := Lib.hid ((HU2.out.new mA).new mB)
  have HYA : Hid (Tree w4 (fun g => g < w2.heap.size) 62 ⟨xk, xf, xn, xw, xla, xln, xlc, xma, xmn, xmc⟩ va) := Lib.hid ((la1.new mA).new mB)
  have HYB : Hid (Tree w4 (fun g => g < w2.heap.size) 62 ⟨yk, yf, yn, yw, yla, yln, ylc, yma, ymn, ymc⟩ vb) := Lib.hid ((lb1.new mA).new mB)
  have HYA60 : Hid (Tree w4 (fun g => g < w2.heap.size) 60 ⟨xk, xf, xn, xw, xla, xln, xlc, xma, xmn, xmc⟩ va) := Lib.hid ((a4.new mA).new mB)
  have HWA : Hid (vW 62 va ≤ 70000) := Lib.hid (by rw [la2]; exact a2)
  have HWDA : Hid (Wide 12 62 va) := Lib.hid (Wide.mono (by omega) _ _ la3)
  have HWB : Hid (vW 62 vb ≤ 490000000) := Lib.hid (by rw [lb2]; omega)
  have HWDB : Hid (Wide 12 62 vb) := Lib.hid (Wide.mono (by omega) _ _ lb3)
  have HA60 := Lib.hid a2
  have HA60W := Lib.hid a3
  have hsa : sb < w2.heap.size := by omega
  clear bA mA bB mB hzA a1 a2 a3 a4 b1 b2 b3 b4 la1 la2 la3 lb1 lb2 lb3 T2 HP2 HU2 hzW
  generalize w2.heap.size = ab at *
  generalize hbb : ab + 1 = bb at *
  have hfl := flip_any sb _ 2 _ HT.out.inv (by omega) (by omega) (by omega)
  go_wp2_with fail
  refine hfl.mono ?_
  clear hfl
  rintro e w5 ⟨mf, rfl, h5⟩
  have htb := HT.out.inv.tb
  have HA1 := Lib.hid (HA.out.mod h5.only (by omega))
  have HB1 := Lib.hid (HBB.out.mod h5.only (by omega))
  have HY1 := Lib.hid (HYA.out.stream h5 htb)
  have HZ1 := Lib.hid (HYB.out.stream h5 htb)
  have HY60 := Lib.hid (HYA60.out.stream h5 htb)
  have HT1 := Lib.hid (HT.out.trans h5)
  have HP1 := Lib.hid (HT0.out.mod HP.out h5.only (fun g hg e => by omega))
  have HU1 := Lib.hid (HU0.out.mod HU.out h5.only (fun g hg e => by omega))
  clear HA HBB HYA HYB HT HP HU HYA60 h5 htb
  have HA := HA1
  have HBB := HB1
  have HYA := HY1
  have HYB := HZ1
  have HT := HT1
  have HP := HP1
  have HU := HU1
  clear HA1 HB1 HY1 HZ1 HT1 HP1 HU1
  go_upto_if 22 with (fail)
  go_cut [] (fun wx => ∃ (y : VA) (vb : VT), Hid (Blk wx ab 29 #[.int .i64 xk, .bool xf, .int .i64 xn, .string xw, .slice xla xln xlc, .slice xma xmn xmc]) ∧ Hid (Blk wx bb 29 #[.int .i64 y.kind, .bool y.flag, .int .i64 y.num, .string y.words, .slice y.la y.ln y.lc, .slice y.ma y.mn y.mc]) ∧
    Hid (Tree wx (fun _ => True) 62 ⟨xk, xf, xn, xw, xla, xln, xlc, xma, xmn, xmc⟩ va) ∧ Hid (Tree wx (fun _ => True) 62 y vb) ∧ Hid (vW 62 vb ≤ 490000000) ∧ Hid (Wide 12 62 vb) ∧ Hid (Pow10 wx) ∧ Hid (Utf8T wx) ∧ Hid (SStep sb W0 wx 100000000))
  case first =>
    cases mf with
    | false =>
      go_wp2_with fail
      go_meet
      case rel => exact ⟨⟨yk, yf, yn, yw, yla, yln, ylc, yma, ymn, ymc⟩, vb, HA, HBB, Lib.hid (Tree.imp (fun _ _ _ => trivial) _ _ _ HYA.out), Lib.hid (Tree.imp (fun _ _ _ => trivial) _ _ _ HYB.out), HWB, HWDB, HP, HU, Lib.hid (HT.out.more (by omega))⟩
    | true =>
      have hwa := HA60.out
      have hnr := near_v 60 sb _ w5 ⟨xk, xf, xn, xw, xla, xln, xlc, xma, xmn, xmc⟩ va (fun g => g < ab) 11 HT.out.inv (by omega) HY60.out (Wide.mono (by omega) _ _ HA60W.out) (by omega) (by omega)
      have hxx := HA.out
      have e0 := hxx.cell 0
      have e1 := hxx.cell 1
      have e2 := hxx.cell 2
      have e3 := hxx.cell 3
      have e4 := hxx.cell 4
      have e5 := hxx.cell 5
      have el := hxx.lt
      simp only [List.getElem?_toArray, List.getElem?_cons_zero, List.getElem?_cons_succ] at e0 e1 e2 e3 e4 e5
      clear hxx
      go_wp2_with fail
      refine hnr.mono ?_
      clear hnr
      rintro e w6 ⟨z, vz, rfl, hz, hzw, hzwd, h6⟩
      have htb := HT.out.inv.tb
      have hs56 := h6.only.size
      have hab5 : bb < w5.heap.size := HBB.out.lt
      clear e0 e1 e2 e3 e4 e5 el
      have HA1 := Lib.hid (HA.out.mod h6.only (by omega))
      have HB1 := Lib.hid (HBB.out.mod h6.only (by omega))
      have HY1 := Lib.hid (HYA.out.stream h6 htb)
      have HT1 := Lib.hid (HT.out.trans h6)
      have HP1 := Lib.hid (HT0.out.mod HP.out h6.only (fun g hg e => by omega))
      have HU1 := Lib.hid (HU0.out.mod HU.out h6.only (fun g hg e => by omega))
      have HZ := Lib.hid (Tree.imp (G' := fun g => g < ab ∨ bb < g) (fun g hg _ => by rcases hg with h | h; exact .inl h; exact .inr (by omega)) _ _ _ hz)
      have HZW : Hid (vW 62 vz ≤ 490000000) := Lib.hid (Nat.le_trans hzw (by omega))
      have HZWD : Hid (Wide 12 62 vz) := Lib.hid hzwd
      have hkt : 8000 + 1 + 1000 * vW 60 va ≤ 100000000 := by omega
      clear HA HBB HYA HYB HT HP HU h6 htb hz hzw hzwd
      obtain ⟨zk, zf, zn, zw, zla, zln, zlc, zma, zmn, zmc⟩ := z
      have HBB := HB1
      have hyy := HBB.out
      have f0 := hyy.cell 0
      have f1 := hyy.cell 1
      have f2 := hyy.cell 2
      have f3 := hyy.cell 3
      have f4 := hyy.cell 4
      have f5 := hyy.cell 5
      have fl := hyy.lt
      have ff := hyy.frozen
      simp only [List.getElem?_toArray, List.getElem?_cons_zero, List.getElem?_cons_succ] at f0 f1 f2 f3 f4 f5
      clear hyy
      have hmo : Only bb w6 ((((((w6.setCell ⟨bb, 0, none⟩ (.int .i64 zk)).setCell ⟨bb, 1, none⟩ (.bool zf)).setCell ⟨bb, 2, none⟩ (.int .i64 zn)).setCell ⟨bb, 3, none⟩ (.string zw)).setCell ⟨bb, 4, none⟩ (.slice zla zln zlc)).setCell ⟨bb, 5, none⟩ (.slice zma zmn zmc)) := (((((Only.set (Mod.refl _ _) 0 _).set 1 _).set 2 _).set 3 _).set 4 _).set 5 _
      have HB2 := Lib.hid ((((((HB1.out.set 0 (.int .i64 zk)).set 1 (.bool zf)).set 2 (.int .i64 zn)).set 3 (.string zw)).set 4 (.slice zla zln zlc)).set 5 (.slice zma zmn zmc))
      simp only [Array.setIfInBounds, List.size_toArray, List.length_cons, List.length_nil, Nat.reduceAdd, Nat.reduceLT, ↓reduceDIte, List.set_toArray, List.set_cons_zero, List.set_cons_succ] at HB2
      have HA2 := Lib.hid (HA1.out.mod hmo (by omega))
      have HY2 := Lib.hid (Tree.imp (G' := fun _ => True) (fun _ _ _ => trivial) _ _ _ (Tree.mod hmo (fun g hg _ e => by omega) _ _ _ HY1.out))
      have HZ2 := Lib.hid (Tree.imp (G' := fun _ => True) (fun _ _ _ => trivial) _ _ _ (Tree.mod hmo (fun g hg _ e => by rcases hg with h | h <;> omega) _ _ _ HZ.out))
      have HT2 := Lib.hid (HT1.out.mod hmo (fun i e => by omega))
      have HP2 := Lib.hid (HT0.out.mod HP1.out hmo (fun g hg e => by omega))
      have HU2 := Lib.hid (HU0.out.mod HU1.out hmo (fun g hg e => by omega))
      clear hmo HA1 HY1 HZ HT1 HP1 HU1
      go_wp2_with fail
      go_meet
      case rel => exact ⟨⟨zk, zf, zn, zw, zla, zln, zlc, zma, zmn, zmc⟩, vz, HA2, HB2, HY2, HZ2, HZW, HZWD, HP2, HU2, Lib.hid (HT2.out.more (by omega))⟩
  case rest =>
    rename World => wz
    clear HA HBB HYA HYB HT HP HU HY60 HWB HWDB
    obtain ⟨y, vb2, HA, HBB, HYA, HYB, HWB, HWDB, HP, HU, HT⟩ := hcut
    obtain ⟨pk, pf, pn, pw, pla, pln, plc, pma, pmn, pmc⟩ := y
    have hfa : Fit 62 va := ⟨Nat.le_trans HWA.out (by omega), Wide.mono (by omega) _ _ HWDA.out⟩
    have hfb : Fit 62 vb2 := ⟨Nat.le_trans HWB.out (by omega), Wide.mono (by omega) _ _ HWDB.out⟩
    have HKA := Lib.hid (fun W (h : New wz W) => HA.out.mod h (fun e => e))
    have HKB := Lib.hid (fun W (h : New wz W) => HBB.out.mod h (fun e => e))
    have HKT := Lib.hid (fun W (h : New wz W) => HYA.out.new h)
    have HKS := Lib.hid (fun W (h : New wz W) => HYB.out.new h)
    have HKP := Lib.hid (fun W (h : New wz W) => HP.out.new h)
    have HKU := Lib.hid (fun W (h : New wz W) => HU.out.new h)
    have HKN := Lib.hid (fun W (h : New wz W) => HN.out _ _ (HT.out.new h))
    have HM : Hid (New wz wz) := Lib.hid (Mod.refl _ _)
    have HBO := Lib.hid (fun (h : orF (vCheck 62 va) (vCheck 62 vb2) = 0) => Both.of HYA.out.deep HYB.out.deep h HWA.out HWB.out HWDA.out HWDB.out)
    have HQD := Lib.hid (fun W (h : New wz W) => valueDiffer_v 62 ⟨xk, xf, xn, xw, xla, xln, xlc, xma, xmn, xmc⟩ ⟨pk, pf, pn, pw, pla, pln, plc, pma, pmn, pmc⟩ va vb2 W (HKT.out W h) (HKS.out W h) hfa hfb (by omega) (HKU.out W h))
    have HQM := Lib.hid (fun W (h : New wz W) => valueMerge_v 62 12 12 ⟨xk, xf, xn, xw, xla, xln, xlc, xma, xmn, xmc⟩ ⟨pk, pf, pn, pw, pla, pln, plc, pma, pmn, pmc⟩ va vb2 W (HKT.out W h) (HKS.out W h) HWDA.out HWDB.out (by omega) (by have := HWA.out; have := HWB.out; omega) (by omega) (HKU.out W h))
    have HQA := Lib.hid (fun W (h : New wz W) => valueFault_v 62 ⟨xk, xf, xn, xw, xla, xln, xlc, xma, xmn, xmc⟩ va _ W (HKT.out W h) hfa (by omega) (HKU.out W h))
    have HQB := Lib.hid (fun W (h : New wz W) => valueFault_v 62 ⟨pk, pf, pn, pw, pla, pln, plc, pma, pmn, pmc⟩ vb2 _ W (HKS.out W h) hfb (by omega) (HKU.out W h))
    have HQO := Lib.hid (fun (hb : Both va vb2) W (h : New wz W) => ref_differ 62 62 ⟨xk, xf, xn, xw, xla, xln, xlc, xma, xmn, xmc⟩ ⟨pk, pf, pn, pw, pla, pln, plc, pma, pmn, pmc⟩ va vb2 none 0 0 [] W (HKT.out W h) (HKS.out W h) hb.ga hb.gb hfa hfb Sl.nil (by omega) (by omega) hb.ln)
    have HQR := Lib.hid (fun (hb : Both va vb2) W (h : New wz W) => mergeOf_v 62 (fun _ => True) ⟨xk, xf, xn, xw, xla, xln, xlc, xma, xmn, xmc⟩ ⟨pk, pf, pn, pw, pla, pln, plc, pma, pmn, pmc⟩ va vb2 12 W (HKT.out W h) (HKS.out W h) (Good.ownM 62 va hb.ga) (Good.ownM 62 vb2 hb.gb) HWDA.out (Wide.mono (by omega) _ _ HWDB.out) (by omega))
    have HFM := Lib.hid (fun (hb : Both va vb2) => hb.fm)
    have HOK := Lib.hid (fun (hb : Both va vb2) => hb.ok)
    have HLL := Lib.hid (fun (hb : Both va vb2) => hb.ln)
    clear HA HBB HYA HYB HP HU HT HN HT0 HU0 hfa hfb HWA HWB HWDA HWDB HA60W HA60
    generalize mrgP 62 va vb2 = M at *
    generalize difF 62 va vb2 [] = L at *
    generalize hFA : vCheck 62 va = FA at *
    generalize hFB : vCheck 62 vb2 = FB at *
    clear hFA hFB
    obtain ⟨F, hF⟩ : ∃ F, orF FA FB = F := ⟨_, rfl⟩
    rw [hF] at HBO HQD HQM
    have HF := Lib.hid hF
    clear hF
    have q := HQD.out _ HM.out
    have hxx := HKA.out _ HM.out
    have hyy := HKB.out _ HM.out
    have e0 := hxx.cell 0
    have e1 := hxx.cell 1
    have e2 := hxx.cell 2
    have e3 := hxx.cell 3
    have e4 := hxx.cell 4
    have e5 := hxx.cell 5
    have el := hxx.lt
    have f0 := hyy.cell 0
    have f1 := hyy.cell 1
    have f2 := hyy.cell 2
    have f3 := hyy.cell 3
    have f4 := hyy.cell 4
    have f5 := hyy.cell 5
    have fl := hyy.lt
    simp only [List.getElem?_toArray, List.getElem?_cons_zero, List.getElem?_cons_succ] at e0 e1 e2 e3 e4 e5 f0 f1 f2 f3 f4 f5
    clear hxx hyy
    go_wp2_with fail
    refine q.mono ?_
    clear q
    clear e0 e1 e2 e3 e4 e5 el f0 f1 f2 f3 f4 f5 fl
    rintro e w6 ⟨m6, A1, n1, c1, qs1, rfl, hn1, hq1⟩
    have HN1 := Lib.hid hn1
    have HS1 := Lib.hid hq1
    have HM1 := Lib.hid (HM.out.trans m6)
    clear HM
    have HM := HM1
    clear HM1
    clear hn1 hq1 HQD
    clear m6
    generalize hE1 : orF F (difE L) = E1 at *
    have HE1 := Lib.hid hE1
    clear hE1
    have q := HQM.out _ HM.out
    have hxx := HKA.out _ HM.out
    have hyy := HKB.out _ HM.out
    have e0 := hxx.cell 0
    have e1 := hxx.cell 1
    have e2 := hxx.cell 2
    have e3 := hxx.cell 3
    have e4 := hxx.cell 4
    have e5 := hxx.cell 5
    have el := hxx.lt
    have f0 := hyy.cell 0
    have f1 := hyy.cell 1
    have f2 := hyy.cell 2
    have f3 := hyy.cell 3
    have f4 := hyy.cell 4
    have f5 := hyy.cell 5
    have fl := hyy.lt
    simp only [List.getElem?_toArray, List.getElem?_cons_zero, List.getElem?_cons_succ] at e0 e1 e2 e3 e4 e5 f0 f1 f2 f3 f4 f5
    clear hxx hyy
    go_wp2_with fail
    refine q.mono ?_
    clear q
    clear e0 e1 e2 e3 e4 e5 el f0 f1 f2 f3 f4 f5 fl
    rintro e w7 ⟨m7, ⟨zk, zf, zn, zw, zla, zln, zlc, zma, zmn, zmc⟩, rfl, hz1, hz2⟩
    have HZ1 := Lib.hid hz1
    have HZ2 := Lib.hid hz2
    clear hz1 hz2 HQM
    generalize hE2 : orF F (vCheck 62 M) = E2 at *
    have HE2 := Lib.hid hE2
    clear hE2
    have bZ := Blk.new w7 29 #[.int .i64 zk, .bool zf, .int .i64 zn, .string zw, .slice zla zln zlc, .slice zma zmn zmc]
    have mZ : New w7 (w7.alloc (.cells #[.int .i64 zk, .bool zf, .int .i64 zn, .string zw, .slice zla zln zlc, .slice zma zmn zmc] 29)) := (Mod.refl _ _).alloc _
    go_upto_region 7 with (fail)
    generalize w7.alloc (.cells #[.int .i64 zk, .bool zf, .int .i64 zn, .string zw, .slice zla zln zlc, .slice zma zmn zmc] 29) = w8 at *
    have hz8 := m7.trans mZ
    have HKA8 := Lib.hid (fun W (h : New w8 W) => HKA.out W ((HM.out.trans hz8).trans h))
    have HKB8 := Lib.hid (fun W (h : New w8 W) => HKB.out W ((HM.out.trans hz8).trans h))
    have HKZ := Lib.hid (fun W (h : New w8 W) => bZ.mod h (fun e => e))
    have HKP8 := Lib.hid (fun W (h : New w8 W) => HKP.out W ((HM.out.trans hz8).trans h))
    have HKU8 := Lib.hid (fun W (h : New w8 W) => HKU.out W ((HM.out.trans hz8).trans h))
    have HKN8 := Lib.hid (fun W (h : New w8 W) => HKN.out W ((HM.out.trans hz8).trans h))
    have HQA8 := Lib.hid (fun W (h : New w8 W) => HQA.out W ((HM.out.trans hz8).trans h))
    have HQB8 := Lib.hid (fun W (h : New w8 W) => HQB.out W ((HM.out.trans hz8).trans h))
    have HQO8 := Lib.hid (fun hb W (h : New w8 W) => HQO.out hb W ((HM.out.trans hz8).trans h))
    have HQR8 := Lib.hid (fun hb W (h : New w8 W) => HQR.out hb W ((HM.out.trans hz8).trans h))
    have HSZ := Lib.hid (fun W (h : New w8 W) (e : E1 = 0) => ((⟨(HS1.out e).1.new (hz8.trans h), Al.imp (fun _ _ q => q.new (hz8.trans h)) (HS1.out e).2⟩ : Sl W 65 8 CA.enc A1 n1 qs1 ∧ Al (ChT W 62) qs1 L)))
    have HZT := Lib.hid (fun W (h : New w8 W) (e : E2 = 0) => (HZ2.out e).new (mZ.trans h))
    have HM8 : Hid (New w8 w8) := Lib.hid (Mod.refl _ _)
    clear HKA HKB HKP HKU HKN HQA HQB HQO HQR HKT HKS HS1 HZ2 HM bZ mZ m7 hz8
    have HM := HM8
    clear HM8
    generalize w7.heap.size = cb at *
    go_cut [10] (fun s10 wx => s10 = .int .i64 F ∧ Hid (New w8 wx))
    case first =>
      have HSL : Hid (∀ W, New w8 W → W.cell? ⟨ab, 0, none⟩ = some (.int .i64 xk) ∧ W.cell? ⟨ab, 1, none⟩ = some (.bool xf) ∧ W.cell? ⟨ab, 2, none⟩ = some (.int .i64 xn) ∧ W.cell? ⟨ab, 3, none⟩ = some (.string xw) ∧ W.cell? ⟨ab, 4, none⟩ = some (.slice xla xln xlc) ∧ W.cell? ⟨ab, 5, none⟩ = some (.slice xma xmn xmc) ∧ ab < W.heap.size ∧ 
        W.cell? ⟨bb, 0, none⟩ = some (.int .i64 pk) ∧ W.cell? ⟨bb, 1, none⟩ = some (.bool pf) ∧ W.cell? ⟨bb, 2, none⟩ = some (.int .i64 pn) ∧ W.cell? ⟨bb, 3, none⟩ = some (.string pw) ∧ W.cell? ⟨bb, 4, none⟩ = some (.slice pla pln plc) ∧ W.cell? ⟨bb, 5, none⟩ = some (.slice pma pmn pmc) ∧ bb < W.heap.size) := Lib.hid (fun W hW => by
        have h1 := HKA8.out W hW
        have h2 := HKB8.out W hW
        exact ⟨(h1.cell 0).trans rfl, (h1.cell 1).trans rfl, (h1.cell 2).trans rfl, (h1.cell 3).trans rfl, (h1.cell 4).trans rfl, (h1.cell 5).trans rfl, h1.lt, (h2.cell 0).trans rfl, (h2.cell 1).trans rfl, (h2.cell 2).trans rfl, (h2.cell 3).trans rfl, (h2.cell 4).trans rfl, (h2.cell 5).trans rfl, h2.lt⟩)
      refine wp_region_held_tree (New w8) 4 (by kernel_rfl) (by kernel_rfl) ?_
      have hn1 : New w8 w8.drew := (Mod.refl _ _).drew
      refine headW_take 0 _ ?_ (fun _ _ d _ _ h => by cases d <;> exact h) (by kernel_rfl) rfl (by kernel_rfl) hn1 (by rfl) (fun W hSw => ?_) ?_
      rotate_left
      · (have hq := HSL.out W hSw); (try simp only [List.getElem_toArray, List.getElem_cons_zero, List.getElem_cons_succ]); go_simp; any_goals (with_reducible rfl)
      simp only [Act.put, List.getElem_toArray, List.getElem_cons_zero, List.getElem_cons_succ, List.setIfInBounds_toArray, List.set_cons_zero, List.set_cons_succ]
      refine headW_take 2 _ ?_ (fun _ _ d _ _ h => by cases d <;> exact h) (by kernel_rfl) rfl (by kernel_rfl) hn1 (by rfl) (fun W hSw => ?_) ?_
      rotate_left
      · (have hq := HSL.out W hSw); (try simp only [List.getElem_toArray, List.getElem_cons_zero, List.getElem_cons_succ]); go_simp; any_goals (with_reducible rfl)
      simp only [Act.put, List.getElem_toArray, List.getElem_cons_zero, List.getElem_cons_succ, List.setIfInBounds_toArray, List.set_cons_zero, List.set_cons_succ]
      refine headW_ready [1] (by kernel_rfl) (by rfl) ?_
      refine eachW_step rfl rfl (fun K hK => ?_) eachW_nil
      have q := HQA8.out _ hn1
      (try simp only [List.getElem_toArray, List.getElem_cons_zero, List.getElem_cons_succ])
      go_simp
      refine q.mono ?_
      clear q
      rintro e w9 ⟨rfl, m9⟩
      have HN9 := Lib.hid (hn1.trans m9)
      clear m9
      go_wp2_with fail
      refine hK.out _ _ HN9.out (fun _ => ?_)
      clear hK K
      (try simp only [Act.put, List.getElem_toArray, List.getElem_cons_zero, List.getElem_cons_succ, List.setIfInBounds_toArray, List.set_cons_zero, List.set_cons_succ])
      refine headW_ready [3] (by kernel_rfl) (by rfl) ?_
      refine eachW_step rfl rfl (fun K hK => ?_) eachW_nil
      have q := HQB8.out _ HN9.out
      (try simp only [List.getElem_toArray, List.getElem_cons_zero, List.getElem_cons_succ])
      go_simp
      refine q.mono ?_
      clear q
      rintro e w10 ⟨rfl, m10⟩
      have HN10 := Lib.hid (HN9.out.trans m10)
      clear m10
      go_wp2_with fail
      refine hK.out _ _ HN10.out (fun _ => ?_)
      clear hK K
      (try simp only [Act.put, List.getElem_toArray, List.getElem_cons_zero, List.getElem_cons_succ, List.setIfInBounds_toArray, List.set_cons_zero, List.set_cons_succ])
      refine headW_done (by kernel_rfl) ?_
      have m11 : New w10 (w10.alloc (.cells #[.int .i64 FA, .int .i64 FB] 34)) := (Mod.refl _ _).alloc _
      have b11 := Blk.new w10 34 #[.int .i64 FA, .int .i64 FB]
      have q := or_two FA FB w10.heap.size _ b11
      rw [HF.out] at q
      have HN11 := Lib.hid (HN10.out.trans m11)
      clear m11 b11
      go_wp2_with fail
      refine q.mono ?_
      clear q
      rintro e w12 ⟨rfl, rfl⟩
      go_wp2_with fail
      first
        | go_meet
        | (refine cM _ _ ?_; go_meet)
      case rel => exact ⟨rfl, HN11⟩
    case rest =>
      rename World => w9
      obtain ⟨rfl, HM9⟩ := hcut
      clear HM
      have HM := HM9
      clear HM9 HQA8 HQB8
      by_cases hF0 : F = 0
      · have hb := HBO.out hF0
        subst hF0
        have hE1 : E1 = difE L := by rw [← HE1.out, orF, if_neg (by simp)]
        have hE2 : E2 = vCheck 62 M := by rw [← HE2.out, orF, if_neg (by simp)]
        have hQO := HQO8.out hb
        have hQR := HQR8.out hb
        have HFMX := Lib.hid (HFM.out hb)
        have HOKX := Lib.hid (HOK.out hb)
        have HLLX := Lib.hid (HLL.out hb)
        have HQOX := Lib.hid hQO
        have HQRX := Lib.hid hQR
        clear HQO8 HQR8 HFM HOK HLL HBO hb hQO hQR HE1 HE2
        have HD := Lib.hid hE1
        have HC := Lib.hid hE2
        clear hE1 hE2
        have q := HQOX.out _ HM.out
        have hxx := HKA8.out _ HM.out
        have hyy := HKB8.out _ HM.out
        have e0 := hxx.cell 0
        have e1 := hxx.cell 1
        have e2 := hxx.cell 2
        have e3 := hxx.cell 3
        have e4 := hxx.cell 4
        have e5 := hxx.cell 5
        have el := hxx.lt
        have f0 := hyy.cell 0
        have f1 := hyy.cell 1
        have f2 := hyy.cell 2
        have f3 := hyy.cell 3
        have f4 := hyy.cell 4
        have f5 := hyy.cell 5
        have fl := hyy.lt
        simp only [List.getElem?_toArray, List.getElem?_cons_zero, List.getElem?_cons_succ] at e0 e1 e2 e3 e4 e5 f0 f1 f2 f3 f4 f5
        clear hxx hyy
        go_wp2_with fail
        refine q.mono ?_
        clear q
        clear e0 e1 e2 e3 e4 e5 el f0 f1 f2 f3 f4 f5 fl
        rintro e w10 ⟨A2, n2, c2, qs2, rfl, sl2, al2, m10⟩
        have HM1 := Lib.hid (HM.out.trans m10)
        clear HM
        have HM := HM1
        clear HM1
        have hn2 : n2 ≤ 400000 := by have h1 := al2.len; have h2 := sl2.1; have h3 := HLLX.out; omega
        have HS2 := Lib.hid sl2
        have HA2 := Lib.hid al2
        clear sl2 al2 m10
        go_upto_region 11 with (fail)
        go_cut [83] (fun s wx => s = .bool false ∧ Hid (New w8 wx))
        case first =>
          have q := ref_differFault 62 A2 n2 c2 qs2 L w10 HS2.out HA2.out (by omega)
          rw [← HD.out] at q
          have hne : (E1 != E1) = false := by simp
          go_wp2_with fail
          refine q.mono ?_
          clear q
          rintro e w11 ⟨rfl, m11⟩
          have HS3 := Lib.hid (HS2.out.new m11)
          have HA3 := Lib.hid (Al.imp (fun _ _ q => q.new m11) HA2.out)
          have HM1 := Lib.hid (HM.out.trans m11)
          clear HM
          have HM := HM1
          clear HM1
          clear m11
          by_cases h0 : E1 = 0
          · have hs := HSZ.out _ HM.out h0
            subst h0
            obtain ⟨hs1, hs2⟩ := hs
            have hl1 := hs2.len
            have hl2 := HA3.out.len
            have hl3 := hs1.1
            have hl4 := HS3.out.1
            obtain rfl : n1 = n2 := by omega
            have q := sameChanges_v 62 L qs1 qs2 A1 A2 n1 c1 c2 w11 hs1 HS3.out hs2 HA3.out (by omega) HOKX.out
            clear hs1 hs2 hl1 hl2 hl3 hl4
            go_wp2_with fail
            refine q.mono ?_
            clear q
            rintro e w12 ⟨rfl, m12⟩
            have HM1 := Lib.hid (HM.out.trans m12)
            clear HM
            have HM := HM1
            clear HM1
            go_wp2_with fail
            go_meet
            case rel => exact ⟨rfl, HM⟩
          · have h0b : (E1 == 0) = false := by simpa using h0
            clear h0
            go_wp2_with fail
            go_meet
            case rel => exact ⟨rfl, HM⟩
        case rest =>
          rename World => w11
          obtain ⟨rfl, HM11⟩ := hcut
          clear HM HS2 HA2
          have HM := HM11
          clear HM11
          have q := HQRX.out _ HM.out
          have hxx := HKA8.out _ HM.out
          have hyy := HKB8.out _ HM.out
          have e0 := hxx.cell 0
          have e1 := hxx.cell 1
          have e2 := hxx.cell 2
          have e3 := hxx.cell 3
          have e4 := hxx.cell 4
          have e5 := hxx.cell 5
          have el := hxx.lt
          have f0 := hyy.cell 0
          have f1 := hyy.cell 1
          have f2 := hyy.cell 2
          have f3 := hyy.cell 3
          have f4 := hyy.cell 4
          have f5 := hyy.cell 5
          have fl := hyy.lt
          simp only [List.getElem?_toArray, List.getElem?_cons_zero, List.getElem?_cons_succ] at e0 e1 e2 e3 e4 e5 f0 f1 f2 f3 f4 f5
          clear hxx hyy
          go_wp2_with fail
          refine q.mono ?_
          clear q
          clear e0 e1 e2 e3 e4 e5 el f0 f1 f2 f3 f4 f5 fl
          rintro e w12 ⟨⟨rk, rff, rn, rw_, rla, rln, rlc, rma, rmn, rmc⟩, rfl, tr, m12⟩
          have bR := Blk.new w12 29 #[.int .i64 rk, .bool rff, .int .i64 rn, .string rw_, .slice rla rln rlc, .slice rma rmn rmc]
          have mR : New w12 (w12.alloc (.cells #[.int .i64 rk, .bool rff, .int .i64 rn, .string rw_, .slice rla rln rlc, .slice rma rmn rmc] 29)) := (Mod.refl _ _).alloc _
          go_upto_region 14 with (fail)
          have HTR := Lib.hid (tr.any.new mR)
          have HM1 := Lib.hid (HM.out.trans m12)
          clear HM
          have HM := HM1
          clear HM1
          have HM1 := Lib.hid (HM.out.trans mR)
          clear HM
          have HM := HM1
          clear HM1
          clear m12 mR tr
          generalize w12.alloc (.cells #[.int .i64 rk, .bool rff, .int .i64 rn, .string rw_, .slice rla rln rlc, .slice rma rmn rmc] 29) = w13 at *
          have HBR := Lib.hid bR
          clear bR
          generalize w12.heap.size = db at *
          have q := valueFault_v 62 _ M _ w13 HTR.out HFMX.out (by omega) (HKU8.out _ HM.out)
          rw [← HC.out] at q
          have r0 := HBR.out.cell 0
          have r1 := HBR.out.cell 1
          have r2 := HBR.out.cell 2
          have r3 := HBR.out.cell 3
          have r4 := HBR.out.cell 4
          have r5 := HBR.out.cell 5
          have rl := HBR.out.lt
          simp only [List.getElem?_toArray, List.getElem?_cons_zero, List.getElem?_cons_succ] at r0 r1 r2 r3 r4 r5
          go_wp2_with fail
          clear r0 r1 r2 r3 r4 r5 rl
          refine q.mono ?_
          clear q
          rintro e w14 ⟨rfl, m14⟩
          have HTR14 := Lib.hid (HTR.out.new m14)
          have HBR14 := Lib.hid (HBR.out.mod m14 (fun e => e))
          have HM1 := Lib.hid (HM.out.trans m14)
          clear HM
          have HM := HM1
          clear HM1
          clear m14 HTR HBR
          have hee : (E2 == E2) = true := by simp
          by_cases h0 : E2 = 0
          · have htz := HZT.out _ HM.out h0
            subst h0
            have q := same_v 62 _ _ M M (fun _ => True) w14 htz HTR14.out HFMX.out HFMX.out
            rw [eqV_refl] at q
            clear htz
            have r0 := HBR14.out.cell 0
            have r1 := HBR14.out.cell 1
            have r2 := HBR14.out.cell 2
            have r3 := HBR14.out.cell 3
            have r4 := HBR14.out.cell 4
            have r5 := HBR14.out.cell 5
            have rl := HBR14.out.lt
            simp only [List.getElem?_toArray, List.getElem?_cons_zero, List.getElem?_cons_succ] at r0 r1 r2 r3 r4 r5
            have hzz := HKZ.out _ HM.out
            have k0 := hzz.cell 0
            have k1 := hzz.cell 1
            have k2 := hzz.cell 2
            have k3 := hzz.cell 3
            have k4 := hzz.cell 4
            have k5 := hzz.cell 5
            have kl := hzz.lt
            simp only [List.getElem?_toArray, List.getElem?_cons_zero, List.getElem?_cons_succ] at k0 k1 k2 k3 k4 k5
            clear hzz
            go_wp2_with fail
            refine q.mono ?_
            clear q
            clear k0 k1 k2 k3 k4 k5 kl
            clear r0 r1 r2 r3 r4 r5 rl
            rintro e w15 ⟨rfl, m15⟩
            have HM1 := Lib.hid (HM.out.trans m15)
            clear HM
            have HM := HM1
            clear HM1
            clear m15
            have q := valued_v w15 (HKP8.out _ HM.out) (HKU8.out _ HM.out)
            go_wp2_with fail
            refine q.mono ?_
            clear q
            rintro e w16 ⟨rfl, m16⟩
            have HM1 := Lib.hid (HM.out.trans m16)
            clear HM
            have HM := HM1
            clear HM1
            go_wp2_with fail
            go_ret
            exact ⟨rfl, HKN8.out _ HM.out⟩
          · have h0b : (E2 != 0) = true := by simpa using h0
            clear h0
            have q := valued_v w14 (HKP8.out _ HM.out) (HKU8.out _ HM.out)
            go_wp2_with fail
            refine q.mono ?_
            clear q
            rintro e w16 ⟨rfl, m16⟩
            have HM1 := Lib.hid (HM.out.trans m16)
            clear HM
            have HM := HM1
            clear HM1
            go_wp2_with fail
            go_ret
            exact ⟨rfl, HKN8.out _ HM.out⟩
      · have hFb : (F != 0) = true := by simpa using hF0
        have hE1 : E1 = F := by rw [← HE1.out, orF, if_pos hF0]
        have hE2 : E2 = F := by rw [← HE2.out, orF, if_pos hF0]
        subst hE1 hE2
        have hn0 := HN1.out hF0
        have hz0 := HZ1.out hF0
        subst hn0
        injection hz0 with z1 z2 z3 z4 z5 z6 z7 z8 z9 z10
        subst z1 z2 z3 z4 z5 z6 z7 z8 z9 z10
        have q := same_v 1 nilVA nilVA nilV nilV (fun _ => True) w9 (nil_tree _ _ 0) (nil_tree _ _ 0) (nilV_fit 0) (nilV_fit 0)
        rw [eqV_refl] at q
        have hee : (E2 == E2) = true := by simp
        have hzz := HKZ.out _ HM.out
        have k0 := hzz.cell 0
        have k1 := hzz.cell 1
        have k2 := hzz.cell 2
        have k3 := hzz.cell 3
        have k4 := hzz.cell 4
        have k5 := hzz.cell 5
        have kl := hzz.lt
        simp only [List.getElem?_toArray, List.getElem?_cons_zero, List.getElem?_cons_succ] at k0 k1 k2 k3 k4 k5
        clear hzz
        go_wp2_with fail
        refine q.mono ?_
        clear q
        clear k0 k1 k2 k3 k4 k5 kl
        rintro e w10 ⟨rfl, m10⟩
        have HM1 := Lib.hid (HM.out.trans m10)
        clear HM
        have HM := HM1
        clear HM1
        clear m10
        have q := valued_v w10 (HKP8.out _ HM.out) (HKU8.out _ HM.out)
        go_wp2_with fail
        refine q.mono ?_
        clear q
        rintro e w11 ⟨rfl, m11⟩
        have HM1 := Lib.hid (HM.out.trans m11)
        clear HM
        have HM := HM1
        clear HM1
        go_wp2_with fail
        go_ret
        exact ⟨rfl, HKN8.out _ HM.out⟩
end Go.Proofs.YtjfgfkbgbhbhjaaGreatDoor
