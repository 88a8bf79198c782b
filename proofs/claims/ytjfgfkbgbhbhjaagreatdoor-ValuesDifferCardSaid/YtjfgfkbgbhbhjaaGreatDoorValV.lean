/- value.textOf, value.Text. Conditions: the value stands in memory as a tree of modest size; the library's tables. -/
import Derived.Test.YtjfgfkbgbhbhjaaGreatDoorValTGrp
import Derived.Test.YtjfgfkbgbhbhjaaGreatDoorVal7Grp
namespace Go.Proofs.YtjfgfkbgbhbhjaaGreatDoor
open Go.RowKit
set_option linter.unusedVariables false
set_option linter.unusedSimpArgs false

set_option maxRecDepth 100000 in
set_option maxHeartbeats 1500000 in
theorem textOf_v (d : Nat) (x : VA) (v : VT) (G : Nat → Prop) (w : World) (ht : Tree w G (d + 1) x v) (hf : Fit (d + 1) v) (hr : vFault (d + 1) v = 0) (hw : vW (d + 1) v ≤ 200000) (hP : Pow10 w) :
    Calls Tryz.prog 70 #[x.val] w fun e w' => e = .returned (.tuple #[.string ⟨(vText (d + 1) v).toArray⟩, .bool true]) ∧ New w w' := by
  have hvl := vText_length (d + 1) v hr
  have hne := vText_ne d v
  have HWV := Lib.hid (fun W b (h : New w W) hb => writerValue_v w hP w.heap.size b (Nat.le_refl _) (d + 1) x v G [] W (ht.new h) hb hf hr (by simpa using hw) (hP.new h))
  generalize vText (d + 1) v = T at *
  obtain ⟨kind, flag, num, words, la, ln, lc, ma, mn, mc⟩ := x
  clear ht hf hr hP
  have hx := Blk.new w 29 #[.int .i64 kind, .bool flag, .int .i64 num, .string words, .slice la ln lc, .slice ma mn mc]
  have hm1 : New w (w.alloc (.cells #[.int .i64 kind, .bool flag, .int .i64 num, .string words, .slice la ln lc, .slice ma mn mc] 29)) := (Mod.refl _ _).alloc _
  go_enter Tryz.func70, Tryz.ntmps70
  go_upto_region 1 with (fail)
  have hsz : (w.alloc (.cells #[.int .i64 kind, .bool flag, .int .i64 num, .string words, .slice la ln lc, .slice ma mn mc] 29)).heap.size = w.heap.size + 1 := by simp
  generalize w.alloc (.cells #[.int .i64 kind, .bool flag, .int .i64 num, .string words, .slice la ln lc, .slice ma mn mc] 29) = w1 at *
  have hb := Blk.new w1 149 #[.pointer none, .slice none 0 0]
  have hm2 : New w1 (w1.alloc (.cells #[.pointer none, .slice none 0 0] 149)) := (Mod.refl _ _).alloc _
  go_upto_region 2 with (fail)
  generalize w1.alloc (.cells #[.pointer none, .slice none 0 0] 149) = w2 at *
  have HBB : Hid (w.heap.size ≤ w1.heap.size) := Lib.hid (by omega)
  have hne2 : w.heap.size ≠ w1.heap.size := by omega
  have hxx := hx.mod hm2 (fun e => e)
  have HBF := Lib.hid (Bw.fresh hb (show w.heap.size ≤ w1.heap.size by omega))
  rw [hsz] at hb hne2 HBF
  generalize w.heap.size + 1 = b at *
  clear hsz HBB
  have hwv := HWV.out w2 b (hm1.trans hm2) HBF.out
  have HM := Lib.hid (hm1.trans hm2)
  have hbl := hb.lt
  clear hx hm1 hm2 hb hne2
  have e0 := hxx.cell 0
  have e1 := hxx.cell 1
  have e2 := hxx.cell 2
  have e3 := hxx.cell 3
  have e4 := hxx.cell 4
  have e5 := hxx.cell 5
  have el := hxx.lt
  simp only [List.getElem?_toArray, List.getElem?_cons_zero, List.getElem?_cons_succ] at e0 e1 e2 e3 e4 e5
  clear hxx
  go_wp2_with fail
  refine hwv.mono ?_
  clear hwv
  rintro e w3 ⟨rfl, hb3, hs3⟩
  have HM3 : Hid (New w w3) := Lib.hid (New.from HM.out hs3.1 (Nat.le_refl _))
  have HB3 : Hid (Bw 149 w.heap.size b T w3) := Lib.hid (by simpa using hb3)
  clear hb3 hs3 e0 e1 e2 e3 e4 e5 el hbl
  have hfu := full_v w.heap.size b T w3 HB3.out (by omega)
  have hbl := HB3.out.lt.2
  go_wp2_with fail
  refine hfu.mono ?_
  clear hfu
  rintro e w3 ⟨rfl, rfl⟩
  have hgv := bw_give w.heap.size b T w3 HB3.out hne
  go_wp2_with fail
  refine hgv.mono ?_
  clear hgv
  rintro e w4 ⟨rfl, m4⟩
  go_wp2_with fail
  go_ret2
  exact ⟨rfl, New.from HM3.out m4 (Nat.le_refl _)⟩

set_option maxRecDepth 100000 in
set_option maxHeartbeats 1500000 in
theorem text_v (d : Nat) (x : VA) (v : VT) (G : Nat → Prop) (w : World) (ht : Tree w G (d + 1) x v) (hf : Fit (d + 1) v) (hw : vW (d + 1) v ≤ 200000) (hP : Pow10 w) (hU : Utf8T w) :
    Calls Tryz.prog 37 #[x.val] w fun e w' => e = .returned (.tuple #[.string (if vCheck (d + 1) v ≠ 0 then ⟨#[]⟩ else ⟨(vText (d + 1) v).toArray⟩), .int .i64 (vCheck (d + 1) v)]) ∧ New w w' := by
  have HCH := Lib.hid (fun W (h : New w W) => check_v (d + 1) x v G W (ht.new h) hf (hU.new h))
  have hcf : vCheck (d + 1) v = 0 → vFault (d + 1) v = 0 := fun h => by
    unfold vCheck at h
    split at h
    · cases h
    · exact h
  have HTX := Lib.hid (fun W (h : New w W) hr => textOf_v d x v G W (ht.new h) hf (hcf hr) hw (hP.new h))
  generalize vCheck (d + 1) v = c at *
  obtain ⟨R, hR⟩ : ∃ R : ByteArray, R = if c ≠ 0 then ⟨#[]⟩ else ⟨(vText (d + 1) v).toArray⟩ := ⟨_, rfl⟩
  rw [← hR]
  have HR := Lib.hid hR
  generalize vText (d + 1) v = T at *
  obtain ⟨kind, flag, num, words, la, ln, lc, ma, mn, mc⟩ := x
  clear ht hf hw hP hU hcf hR
  have hx := Blk.new w 29 #[.int .i64 kind, .bool flag, .int .i64 num, .string words, .slice la ln lc, .slice ma mn mc]
  have hm1 : New w (w.alloc (.cells #[.int .i64 kind, .bool flag, .int .i64 num, .string words, .slice la ln lc, .slice ma mn mc] 29)) := (Mod.refl _ _).alloc _
  go_enter Tryz.func37, Tryz.ntmps37
  go_upto_region 1 with (fail)
  generalize w.alloc (.cells #[.int .i64 kind, .bool flag, .int .i64 num, .string words, .slice la ln lc, .slice ma mn mc] 29) = w1 at *
  generalize w.heap.size = xb at *
  have hch := HCH.out _ hm1
  have HX := Lib.hid hx
  have HM1 := Lib.hid hm1
  have hxx := hx
  clear hx hm1
  have e0 := hxx.cell 0
  have e1 := hxx.cell 1
  have e2 := hxx.cell 2
  have e3 := hxx.cell 3
  have e4 := hxx.cell 4
  have e5 := hxx.cell 5
  have el := hxx.lt
  simp only [List.getElem?_toArray, List.getElem?_cons_zero, List.getElem?_cons_succ] at e0 e1 e2 e3 e4 e5
  clear hxx
  go_wp2_with fail
  refine hch.mono ?_
  clear hch
  rintro e w2 ⟨rfl, m2⟩
  have HM2 := Lib.hid (HM1.out.trans m2)
  have HX2 := Lib.hid (HX.out.mod m2 (fun e => e))
  clear e0 e1 e2 e3 e4 e5 el m2
  by_cases hz : c = 0
  · subst hz
    have HRET : Hid (Ending.returned (.tuple #[.string ⟨T.toArray⟩, .int .i64 0]) = Ending.returned (.tuple #[.string R, .int .i64 0])) := Lib.hid (by rw [HR.out]; simp)
    have hxx := HX2.out
    have e0 := hxx.cell 0
    have e1 := hxx.cell 1
    have e2 := hxx.cell 2
    have e3 := hxx.cell 3
    have e4 := hxx.cell 4
    have e5 := hxx.cell 5
    have el := hxx.lt
    simp only [List.getElem?_toArray, List.getElem?_cons_zero, List.getElem?_cons_succ] at e0 e1 e2 e3 e4 e5
    clear hxx
    have htx := HTX.out _ HM2.out rfl
    go_wp2_with fail
    refine htx.mono ?_
    clear htx
    rintro e w3 ⟨rfl, m3⟩
    go_wp2_with fail
    go_ret2
    exact ⟨Eq.trans rfl HRET.out, HM2.out.trans m3⟩
  · have hz1 : (c != 0) = true := by simpa using hz
    have HRET : Hid (Ending.returned (.tuple #[.string ⟨#[]⟩, .int .i64 c]) = Ending.returned (.tuple #[.string R, .int .i64 c])) := Lib.hid (by rw [HR.out, if_pos hz])
    clear hz
    go_wp2_with fail
    go_ret2
    exact ⟨Eq.trans rfl HRET.out, HM2.out⟩

end Go.Proofs.YtjfgfkbgbhbhjaaGreatDoor
