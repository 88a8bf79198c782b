/- The path that has some segments (package message: JoinPath). Conditions: texts of modest size. -/
import Derived.Test.YtjehlecgnepgmaaGreatDoorNPathGrp
namespace Go.Proofs.YtjehlecgnepgmaaGreatDoor
open Go.RowKit
set_option linter.unusedVariables false
set_option linter.unusedSimpArgs false

theorem anyD_take {p : ByteArray → Bool} {l : List ByteArray} {k : Nat} (h : k < l.length) (h0 : (l.take k).any p = false) : (l.take (k + 1)).any p = p l[k] := by
  rw [List.take_succ_eq_append_getElem h, List.any_append, h0]; simp
theorem anyD_hit {p : ByteArray → Bool} {l : List ByteArray} {k : Nat} (h : k < l.length) (h1 : p l[k] = true) : l.any p = true := List.any_eq_true.2 ⟨_, List.getElem_mem h, h1⟩
set_option maxRecDepth 100000 in
set_option maxHeartbeats 1500000 in
theorem msg_joinPath (A : Option Addr) (n c : Nat) (l : List ByteArray) (w : World) (hs : SSl w A n l) (hf : PFit l) :
    Calls Tryz.prog 51 #[.slice A n c] w (RTxt (joinP l) w) := by
  have HL := Lib.hid hs.1
  have hn : n ≤ 100000 := by have h1 := pathT_ge l; have h2 := hf.t; have h3 := hs.1; omega
  by_cases h1 : 100 < n
  · have h1' : (100 : Int) < (n : Int) := by omega
    have HQ : Hid (joinP l = (2, [])) := Lib.hid (by unfold joinP; rw [if_pos (by have := HL.out; omega)])
    clear hs hf
    go_enter Tryz.func51, Tryz.ntmps51
    go_wp2_with fail
    go_ret2
    exact RTxt.fault HQ.out (Mod.refl _ _)
  have h1' : ¬ (100 : Int) < (n : Int) := by omega
  by_cases h2 : n = 0
  · have HQ : Hid (joinP l = (3, [])) := Lib.hid (by unfold joinP; rw [if_neg (by have := HL.out; omega), if_pos (by have := HL.out; omega)])
    subst h2
    clear hs hf HL
    go_enter Tryz.func51, Tryz.ntmps51
    go_wp2_with fail
    go_ret2
    exact RTxt.fault HQ.out (Mod.refl _ _)
  have h2' : ((n : Int) == 0) = false := by simp; omega
  have HQ : Hid (joinP l = if l.any isDotB then (5, []) else if 1000 < (pathT l).length then (2, []) else (0, pathT l)) := Lib.hid (by unfold joinP; rw [if_neg (by have := HL.out; omega), if_neg (by have := HL.out; omega)])
  have hb0 := Blk.new w 69 #[.pointer none, .slice none 0 0]
  have hm0 : New w (w.alloc (.cells #[.pointer none, .slice none 0 0] 69)) := (Mod.refl _ _).alloc _
  have HS := Lib.hid hs
  have HF := Lib.hid hf
  clear hs hf h1 h2
  go_enter Tryz.func51, Tryz.ntmps51
  go_upto_region 6 with (fail)
  generalize w.alloc (.cells #[.pointer none, .slice none 0 0] 69) = w1 at *
  generalize hbe : w.heap.size = B at *
  have HB := Lib.hid (Bw.fresh hb0 (Nat.le_refl _))
  have HM := Lib.hid hm0
  have HBE := Lib.hid hbe
  clear hb0 hm0 hbe
  go_wp2_with fail
  go_loopw [15] (fun i wr => ∃ k : Nat, k ≤ n ∧ i = .int .i64 k ∧ Hid ((l.take k).any isDotB = false) ∧ Hid (Bw 69 B B (pathT (l.take k)) wr) ∧ Hid (New w wr)) (fun i _ => n - (intOf i).toNat)
  case atStart => exact ⟨0, Nat.zero_le _, rfl, Lib.hid rfl, HB, HM⟩
  case round =>
    clear HB HM
    rename World => wr
    obtain ⟨k, hk, rfl, HD, HB, HM⟩ := hrel
    by_cases hlt : k < n
    · have hdt := anyD_take (p := isDotB) (l := l) (k := k) (by have := HL.out; omega) HD.out
      have hdh := anyD_hit (p := isDotB) (l := l) (k := k) (by have := HL.out; omega)
      have hkl : k < l.length := by have := HL.out; omega
      obtain ⟨g, o, hA, ht, hc⟩ := (HS.out.new HM.out).2 (by omega)
      subst hA
      have a0 := hc k hkl 0 (by omega)
      have hst := pathT_take hkl
      have hle := pathT_le l (k + 1)
      rw [hst] at hle
      have hft := HF.out.t
      have hxz := HF.out.x _ (List.getElem_mem hkl)
      have hgl := ht.lt
      have hb1 : (0 : Int) ≤ k := by omega
      have hb2 : (k : Int) < n := by omega
      simp only [sEnc, Nat.mul_one, Nat.add_zero] at a0
      clear hc ht
      generalize l[k] = x at *
      have hsl := segL_length x.data.toList
      have hxl : x.data.toList.length = x.size := rfl
      have hHT : Hid ((⟨(segL x.data.toList).toArray⟩ : ByteArray).data.toList = segL x.data.toList) := Lib.hid rfl
      have hTs : (⟨(segL x.data.toList).toArray⟩ : ByteArray).size = (segL x.data.toList).length := by show (List.toArray _).size = _; simp
      rw [List.length_append, List.length_cons] at hle
      have k1 := const_eq x [46]
      have k2 := const_eq x [46, 46]
      have hdd : isDotB x = (decide (x = dot1) || decide (x = dot2)) := rfl
      have HDT := Lib.hid hdt
      have HDH := Lib.hid hdh
      have HTS := Lib.hid hTs
      have HST := Lib.hid hst
      have HLE := Lib.hid hle
      have hTs' : (⟨(segL x.data.toList).toArray⟩ : ByteArray).size ≤ 100000 := by omega
      clear hdt hdh hTs hst hle
      by_cases hx : x = dot1 ∨ x = dot2
      · have HE : Hid (joinP l = (5, [])) := Lib.hid (by rw [HQ.out, HDH.out (by rw [hdd]; rcases hx with h | h <;> simp [h]), if_pos rfl])
        clear hdd hsl hxl hft hTs'
        rcases hx with hx | hx
        · rw [decide_eq_true hx] at k1
          clear hx k2
          go_wp2_with fail
          go_ret2
          exact RTxt.fault HE.out HM.out
        · have hx1 : ¬ x = dot1 := by rw [hx]; decide
          rw [decide_eq_false hx1] at k1
          rw [decide_eq_true hx] at k2
          clear hx hx1
          go_wp2_with fail
          go_ret2
          exact RTxt.fault HE.out HM.out
      · have hx1 : ¬ x = dot1 := fun h => hx (.inl h)
        have hx2 : ¬ x = dot2 := fun h => hx (.inr h)
        rw [decide_eq_false hx1] at k1
        rw [decide_eq_false hx2] at k2
        have HD1 : Hid ((l.take (k + 1)).any isDotB = false) := Lib.hid (by rw [HDT.out, hdd, decide_eq_false hx1, decide_eq_false hx2]; rfl)
        have hsg := msg_segment x wr (by omega)
        clear hx hx1 hx2 hdd HD hsl hxl hft
        generalize (⟨(segL x.data.toList).toArray⟩ : ByteArray) = T at *
        have e1 : (⟨#[47]⟩ : ByteArray).size = 1 := rfl
        have hadd : ¬ 9223372036854775807 < (⟨#[47]⟩ : ByteArray).size + T.size := by omega
        go_upto_region 11 with fail
        go_wp2_with fail
        refine hsg.mono ?_
        clear hsg
        rintro e w4 ⟨rfl, hm4⟩
        have HM4 : Hid (New w w4) := Lib.hid (HM.out.trans hm4)
        have HB4 := Lib.hid (HB.out.new hm4)
        clear hm4 HM HB
        have HM := HM4
        have HB := HB4
        clear HM4 HB4
        go_wp2_with fail
        have hTs := HTS.out
        have hst := HST.out
        have hle := HLE.out
        have hft := HF.out.t
        obtain ⟨U, hU⟩ : ∃ U : ByteArray, U = (⟨#[47]⟩ : ByteArray) ++ T := ⟨_, rfl⟩
        have HUL : Hid (U.data.toList = 47 :: segL x.data.toList) := Lib.hid (by rw [hU, cat_list, hHT.out]; rfl)
        rw [← hU]
        have hUz : U.size = (segL x.data.toList).length + 1 := by rw [hU, ByteArray.size_append]; show 1 + T.size = _; omega
        have hwr := bw_string buT_self B B (pathT (l.take k)) U _ HB.out (by omega)
        clear hU hUz
        refine hwr.mono ?_
        clear hwr
        rintro e w5 ⟨rfl, hb5, hm5, -⟩
        have HM5 := Lib.hid (HM.out.from hm5 (Nat.le_of_eq HBE.out))
        have HB5 : Hid (Bw 69 B B (pathT (l.take (k + 1))) w5) := Lib.hid (by rw [hst, ← HUL.out]; exact hb5)
        clear hb5 hm5 HB HM hst hle hTs
        go_wp2_with fail
        go_roundw
        case rel => exact ⟨k + 1, by omega, by go_num, HD1, HB5, HM5⟩
        case measure => simp [intOf]; omega
    · obtain rfl : k = n := by omega
      have hT : l.take k = l := List.take_of_length_le (by have := HL.out; omega)
      rw [hT] at HD HB
      have HQ1 : Hid (joinP l = if 1000 < (pathT l).length then (2, []) else (0, pathT l)) := Lib.hid (by rw [HQ.out, HD.out]; rfl)
      have hln := bw_len B B _ wr HB.out
      clear hT HQ
      by_cases hbig : 1000 < (pathT l).length
      · have hbig' : (1000 : Int) < ((pathT l).length : Int) := by omega
        have HE2 : Hid (joinP l = (2, [])) := Lib.hid (by rw [HQ1.out, if_pos hbig])
        go_wp2_with (first | (refine hln.mono ?_; clear hln; rintro e w4 ⟨rfl, hw4⟩; rw [hw4]; clear hw4))
        go_ret2
        exact RTxt.fault HE2.out HM.out
      · have hbig' : ¬ (1000 : Int) < ((pathT l).length : Int) := by omega
        have HE2 : Hid (joinP l = (0, pathT l)) := Lib.hid (by rw [HQ1.out, if_neg hbig])
        have hst := bw_any B B _ wr HB.out
        go_wp2_with (first | (refine hln.mono ?_; clear hln; rintro e w4 ⟨rfl, hw4⟩; rw [hw4]; clear hw4) | (refine hst.mono ?_; clear hst; rintro e w5 ⟨rfl, hm5⟩; have HM5 := Lib.hid (HM.out.from hm5 (Nat.le_of_eq HBE.out)); clear hm5))
        go_ret2
        exact ⟨by rw [HE2.out]; rfl, HM5.out⟩

end Go.Proofs.YtjehlecgnepgmaaGreatDoor
